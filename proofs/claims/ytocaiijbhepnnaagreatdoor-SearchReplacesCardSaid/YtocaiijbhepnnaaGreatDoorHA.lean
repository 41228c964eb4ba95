/- SearchReplaces, walked: the document's letters, its Fold. -/
import Derived.Test.YtocaiijbhepnnaaGreatDoorFC
set_option maxRecDepth 100000
set_option maxHeartbeats 8000000
namespace Go.Proofs.YtocaiijbhepnnaaGreatDoor.searchReplaces
open Go.Shelf Go.RowKit Go.Lib Go.Proofs.YtocaiijbhepnnaaGreatDoor.Am
theorem VP (r:Int) (h:∀j,j<17->Cases.gJ.getD j 0≠r):Cases.gJ.contains r=false:=by rw[Bh];intro c;rw[List.contains_iff_mem]at c;obtain⟨j,hj,he⟩:=uw.1 c;exact h j hj (by rw[aM,aX hj];exact he)
def ln (k:Nat):Cases.Line:=Cases.lines.getD k (0,0,0,1)
def ajA (p:Cases.Line):Bool:=decide (0<=p.1)&&decide (p.1<=p.2.1)&&decide (p.2.1<=70000)&&decide (-1000<=p.2.2.1)&&decide (p.2.2.1<=1000)&&decide (0<=p.1+p.2.2.1)&&decide (1<=p.2.2.2)&&decide (p.2.2.2<=2)
theorem Rf:((List.range 23).all λk=>ajA (ln k)&&decide (sJ.getD (4*k) 0=(ln k).1)&&decide (sJ.getD (4*k+1) 0=(ln k).2.1)&&decide (sJ.getD (4*k+2) 0=(ln k).2.2.1)&&decide (sJ.getD (4*k+3) 0=(ln k).2.2.2))=true:=by decide+kernel
def acc (r:Int) (k:Nat):Int×Int:=(Cases.lines.take k).foldl (Cases.step r) (r,r)
theorem ZI (r:Int) {k:Nat} (hk:k<23):acc r (k+1)=Cases.step r (acc r k) (ln k):=by unfold acc ln;rw[List.take_succ_eq_append_getElem (show k<Cases.lines.length from hk),List.foldl_append,aM,aX (show k<Cases.lines.length from hk)];rfl
theorem step_eq {r a b d s x1 y1 x2 y2 sm gr:Int} (hr: -2147483648<=r/\r<=2147483647) (q:0<=a/\a<=b/\b<=70000∧-1000<=d/\d<=1000/\0<=a+d/\1<=s/\s<=2)
 (hx1:wrap32 (r-a)=x1) (hy1:Int.tmod x1 s=y1) (hx2:wrap32 (x1-d)=x2) (hy2:Int.tmod x2 s=y2):
 (Cases.step r (sm,gr) (a,b,d,s)).1=(if(decide (a<=r)&&decide (r<=b)&&decide (y1=0))=true then wrap32 (r+d)else sm)/\
 (Cases.step r (sm,gr) (a,b,d,s)).2=(if(decide (a+d<=r)&&decide (r<=b+d)&&decide (y2=0))=true then wrap32 (r-d)else gr):=by
 have h1:Cases.oW r (a,b,d,s)=(decide (a<=r)&&decide (r<=b)&&decide (y1=0)):=by
  unfold Cases.oW;dsimp only;by_cases c:a<=r/\r<=b
  ·have e:wrap32 (r-a)=r-a:=by unfold wrap32;omega
   rw[<-hy1,<-hx1,e]
  ·rw[<-hy1];by_cases c1:a<=r
   ·rw[aZ (show ¬r<=b from λh=>c ⟨c1,h⟩)];simp
   ·rw[aZ c1];simp
 have h2:Cases.isSmall r (a,b,d,s)=(decide (a+d<=r)&&decide (r<=b+d)&&decide (y2=0)):=by
  unfold Cases.isSmall;dsimp only;by_cases c:a+d<=r/\r<=b+d
  ·have e:wrap32 (r-a)=r-a:=by unfold wrap32;omega
   have e2:wrap32 (r-a-d)=r-a-d:=by unfold wrap32;omega
   rw[<-hy2,<-hx2,<-hx1,e,e2]
  ·by_cases c1:a+d<=r
   ·rw[aZ (show ¬r<=b+d from λh=>c ⟨c1,h⟩)];simp
   ·rw[aZ c1];simp
 unfold Cases.step;rw[<-h1,<-h2];dsimp only;constructor
 ·cases c:Cases.oW r (a,b,d,s)with
  |false=>rfl
  |true=>rw[ak rfl,ak rfl];unfold Cases.oW at c;simp only[aR,aW]at c;unfold wrap32;omega
 ·cases c:Cases.isSmall r (a,b,d,s)with
  |false=>rfl
  |true=>rw[ak rfl,ak rfl];unfold Cases.isSmall at c;simp only[aR,aW]at c;unfold wrap32;omega
def VQ (r:Int) (W:World) (e:Ending) (w':World):Prop:=e= .returned (.tuple #[.int .i32 (Cases.nL r).1, .int .i32 (Cases.nL r).2])/\Below W.heap.size W w'
theorem ZJ (r:Int) (hr: -2147483648<=r/\r<=2147483647) (v:Value) (W:World) (h:Gx W v):Calls Tryz.prog 111 #[v, .int .i32 r] W (VQ r W):=by
 obtain⟨B,o,BP,oP,cP,BS,oS,cS,rfl,c0,c1,l1,l2,hP,hS⟩:=h;have hB:=dO c0;have hBP:=dO (hP 0 (by omega));have HP:=ah hP;have HR:=ah hr;have HB:=ah hB;have HBP:=ah hBP;have C0:=ah c0;clear hP hS c1 hr hB hBP;go_enter Tryz.func111,Tryz.ntmps111;go_wp2;go_loopw [6,7,8] (λsm gr i wr=>∃k:Nat,k<=23/\i= .int .i64 k/\sm= .int .i32 (acc r k).1/\gr= .int .i32 (acc r k).2/\Below W.heap.size W wr) (λ_ _ i _=>23-(RowKit.intOf i).toNat);case atStart=>exact⟨0,by omega,rfl,rfl,rfl,aF _ _⟩
 case round=>
  obtain⟨k,hk,rfl,rfl,rfl,hbel⟩:=hrel;have d0:wr.cell? ⟨B,o,none⟩=some (.slice (some ⟨BP,oP,none⟩) 23 cP):=by rw[hbel.cell HB.out];exact C0.out
  have zN:=ah hbel;clear hbel c0;by_cases hlt:k<23
  ·have hall:=gF.1 Rf k (mh.2 hlt);simp only[aR,aW,ajA]at hall;obtain⟨⟨⟨⟨⟨⟨⟨⟨⟨⟨⟨q1,q2⟩,q3⟩,q4⟩,q5⟩,q6⟩,q7⟩,q8⟩,e0⟩,e1⟩,e2⟩,e3⟩:=hall;have f0:=HP.out (4*k) (by omega);have f1:=HP.out (4*k+1) (by omega);have f2:=HP.out (4*k+2) (by omega);have f3:=HP.out (4*k+3) (by omega);rw[e0]at f0;rw[e1]at f1;rw[e2]at f2;rw[e3]at f3;rw[kr 4 k]at f0 f1 f2 f3;have g0:wr.cell? ⟨BP,oP+k*4,none⟩=some (.int .i32 (ln k).1):=by rw[zN.out.cell HBP.out];exact f0
   have g1:wr.cell? ⟨BP,oP+k*4+1,none⟩=some (.int .i32 (ln k).2.1):=by rw[zN.out.cell HBP.out];exact f1
   have g2:wr.cell? ⟨BP,oP+k*4+2,none⟩=some (.int .i32 (ln k).2.2.1):=by rw[zN.out.cell HBP.out];exact f2
   have g3:wr.cell? ⟨BP,oP+k*4+3,none⟩=some (.int .i32 (ln k).2.2.2):=by rw[zN.out.cell HBP.out];exact f3
   have HA:=ah (ZI r hlt);clear e0 e1 e2 e3 f0 f1 f2 f3;obtain⟨p,hp⟩:∃p,ln k=p:=⟨_,rfl⟩
   rw[hp]at q1 q2 q3 q4 q5 q6 q7 q8 g0 g1 g2 g3 HA;clear hp;obtain⟨a,b,d,s⟩:=p;dsimp only at q1 q2 q3 q4 q5 q6 q7 q8 g0 g1 g2 g3;obtain⟨sg,hsg⟩:∃sg,acc r k=sg:=⟨_,rfl⟩
   rw[hsg]at HA;rw[hsg];clear hsg;obtain⟨sm,gr⟩:=sg;dsimp only;have hs:s≠0:=by omega
   obtain⟨x1,hx1⟩:∃x,wrap32 (r-a)=x:=⟨_,rfl⟩
   obtain⟨y1,hy1⟩:∃y,Int.tmod x1 s=y:=⟨_,rfl⟩
   have w1:wrap32 (a+d)=a+d:=by unfold wrap32;omega
   have w2:wrap32 (b+d)=b+d:=by unfold wrap32;omega
   obtain⟨x2,hx2⟩:∃x,wrap32 (x1-d)=x:=⟨_,rfl⟩
   obtain⟨y2,hy2⟩:∃y,Int.tmod x2 s=y:=⟨_,rfl⟩
   obtain⟨t1,ht1⟩:∃t,decide (a<=r)=t:=⟨_,rfl⟩
   obtain⟨t2,ht2⟩:∃t,decide (r<=b)=t:=⟨_,rfl⟩
   obtain⟨t3,ht3⟩:∃t,decide (y1=0)=t:=⟨_,rfl⟩
   obtain⟨t4,ht4⟩:∃t,decide (a+d<=r)=t:=⟨_,rfl⟩
   obtain⟨t5,ht5⟩:∃t,decide (r<=b+d)=t:=⟨_,rfl⟩
   obtain⟨t6,ht6⟩:∃t,decide (y2=0)=t:=⟨_,rfl⟩
   obtain⟨s1,s2⟩:=step_eq (sm:=sm) (gr:=gr) HR.out ⟨q1,q2,q3,q4,q5,q6,q7,q8⟩ hx1 hy1 hx2 hy2;rw[ht1,ht2,ht3]at s1;rw[ht4,ht5,ht6]at s2;have S1:=ah s1;have S2:=ah s2;clear s1 s2;clear q1 q2 q3 q4 q5 q6 q7 q8;have T1:t1=false\/(t1=true/\t2=false)\/(t1=true/\t2=true/\t3=false)\/(t1=true/\t2=true/\t3=true):=by cases t1<;>cases t2<;>cases t3<;>simp
   have T2:t4=false\/(t4=true/\t5=false)\/(t4=true/\t5=true/\t6=false)\/(t4=true/\t5=true/\t6=true):=by cases t4<;>cases t5<;>cases t6<;>simp
   rcases T1 with rfl|⟨rfl,rfl⟩|⟨rfl,rfl,rfl⟩|⟨rfl,rfl,rfl⟩<;>rcases T2 with rfl|⟨rfl,rfl⟩|⟨rfl,rfl,rfl⟩|⟨rfl,rfl,rfl⟩
   all_goals
    try have n3:=of_decide_eq_false ht3
    try have n6:=of_decide_eq_false ht6
    try have m3:=jg ht3
    try have m6:=jg ht6
    go_wp2;refine⟨⟨k+1,hlt,by go_num,?_,?_,zN.out.alloc zN.out.size _⟩,by simp[RowKit.intOf];omega⟩;·rw[HA.out,S1.out];rfl
    ·rw[HA.out,S2.out];rfl
  ·obtain rfl:k=23:=by omega
   go_wp2;go_ret2;exact⟨rfl,zN.out⟩
theorem LH {w w':World} {v:Value} (h:Gx w v) (hb:Below w.heap.size w w'):Gx w' v:=by obtain⟨B,o,BP,oP,cP,BS,oS,cS,rfl,c0,c1,l1,l2,hP,hS⟩:=h;have hB:=dO c0;have hBP:=dO (hP 0 (by omega));have hBS:=dO (hS 0 (by omega)).1;refine⟨B,o,BP,oP,cP,BS,oS,cS,rfl,by rw[hb.cell hB];exact c0,by rw[hb.cell hB];exact c1,l1,l2,λi hi=>by rw[hb.cell hBP];exact hP i hi,λj hj=>⟨by rw[hb.cell hBS];exact(hS j hj).1,?_⟩⟩;obtain⟨p,n,c,h⟩:=(hS j hj).2;exact⟨p,n,c,by rw[hb.cell hBS];exact h⟩
theorem TR (p:Option Addr) (n c:Nat) (w:World):(binOp .neq 102 (.slice p n c) (.slice none 0 0)).run Tryz.prog w= .ok (.bool p.isSome) w:=by cases p<;>rfl
theorem Hu:((List.range 17).all λk=>decide (formsOf (Cases.gJ.getD k 0)=some ((formsT.map (·.2)).getD k [])))=true:=by decide+kernel
theorem Rh {k:Nat} (hk:k<17):formsOf (Cases.gJ.getD k 0)=some ((formsT.map (·.2)).getD k []):=jg (gF.1 Hu k (mh.2 hk))
theorem ZK (r:Int) (h:∀j,j<17->Cases.gJ.getD j 0≠r):formsOf r=none:=by
 have h1:=VP r h;rw[<-formsOf_iff]at h1;cases hf:formsOf r with
 |none=>rfl
 |some fs=>rw[hf]at h1;cases h1
theorem D7 {w w':World} {v:Value} (h:DU w v) (hb:Below w.heap.size w w'):DU w' v:=by obtain⟨h1,B,o,BS,oS,cS,rfl,c1,hS⟩:=h;refine⟨LH h1 hb,B,o,BS,oS,cS,rfl,by rw[hb.cell (dO c1)];exact c1,λj hj=> ?_⟩;obtain⟨u,h2,h3⟩:=hS j hj;exact⟨u,by rw[hb.cell (dO h2)];exact h2,fourIs_below h3 hb⟩
def VT (r:Int) (w:World) (e:Ending) (w':World):Prop:=(∃p n c,e= .returned (.slice p n c)/\p.isSome=(formsOf r).isSome/\∀fs,formsOf r=some fs->Gz w (.slice p n c) fs)/\w'=w
theorem Ov (r:Int) (v:Value) (w:World) (h:DU w v):Calls Tryz.prog 112 #[v, .int .i32 r] w (VT r w):=by
 obtain⟨⟨B,o,BP,oP,cP,BS,oS,cS,rfl,c0,c1,l1,l2,hP,hS⟩,B',o',BS',oS',cS',hv,c1',hF⟩:=h;injection hv with hv;injection hv with hv;injection hv with hv1 hv2;subst hv1 hv2;rw[c1]at c1';injection c1' with c1';injection c1' with e1 e2 e3;injection e1 with e1;injection e1 with e4 e5;subst e4 e5;have HS:=ah hS;have HF:=ah hF;clear hS hP c0 hF e2 e3;go_enter Tryz.func112,Tryz.ntmps112;go_wp2;go_loop [5] (λi=>∃k:Nat,k<=17/\i= .int .i64 k/\∀j,j<k->Cases.gJ.getD j 0≠r) (λi=>17-(RowKit.intOf i).toNat);case atStart=>exact⟨0,by omega,rfl,λj hj=>by omega⟩
 case round=>
  obtain⟨k,hk,rfl,hlo⟩:=hrel;have zO:=ah hlo;clear hlo;by_cases hlt:k<17
  ·obtain⟨d1,p,n,c,d2⟩:=HS.out k hlt;obtain⟨u,d3,h4⟩:=HF.out k hlt;rw[show oS+(2*k+1)=oS+2*k+1 by omega,d2]at d3;injection d3 with d3;have H4:=ah h4;clear h4;rw[<-d3]at H4;clear d3;rw[kr 2 k]at d1 d2;by_cases he:Cases.gJ.getD k 0=r
   ·have HE:=ah he;rw[he]at d1;clear he;go_wp2;go_ret;have hf:formsOf r=some ((formsT.map (·.2)).getD k []):=by rw[<-HE.out];exact Rh hlt
    exact⟨⟨_,_,_,rfl,by rw[hf];rfl,λfs hfs=>by rw[hf]at hfs;injection hfs with hfs;rw[<-hfs];exact H4.out⟩,rfl⟩
   ·obtain⟨x,hx⟩:∃x,Cases.gJ.getD k 0=x:=⟨_,rfl⟩
    have HE:=ah he;rw[hx]at d1 he;clear hx;have hd:decide (x=r)=false:=aZ he;go_wp2;go_round;case rel=>exact⟨k+1,hlt,by go_num,λj hj=>by
     rcases aK j k with c|c;·exact zO.out j c
     ·obtain rfl:j=k:=by omega
      exact HE.out⟩
    case measure=>simp[RowKit.intOf];omega
  ·obtain rfl:k=17:=by omega
   go_wp2;go_ret;have hf:=ZK r zO.out;exact⟨⟨_,_,_,rfl,by rw[hf];rfl,λfs hfs=>by rw[hf]at hfs;cases hfs⟩,rfl⟩
theorem form2_ok (r:Int) (hr: -2147483648<=r/\r<=2147483647) (k:Nat) (hk:k<4) (v:Value) (W:World) (h:DU W v):Calls Tryz.prog 67 #[v, .int .i32 r, .int .i64 k] W (Bp (formV r k) W):=by
 obtain⟨B,o,rfl⟩:∃B o,v= .pointer (some ⟨B,o,none⟩):=by obtain⟨_,B,o,_,_,_,rfl,_⟩:=h;exact⟨B,o,rfl⟩
 have nT:=ah (Ov r _ W h)
 have HP:=ah (ZJ r hr _ W h.1)
 clear h
 cases hf:formsOf r with
 |some fs=>
  have HV:=ah (show formV r k=fs.getD k []by unfold formV;rw[hf])
  have HF:=ah hf;clear hf
  go_enter Tryz.func67,Tryz.ntmps67
  go_wp2_with (go_at_call 112
               refine nT.out.mono ?_
               rintro e w2 ⟨⟨p,n,c,rfl,hp,h4⟩,rfl⟩
               rw[HF.out]at hp
               have hz:=λw=>TR p n c w
               rw[hp]at hz
               obtain⟨g,o4,c4,h41,h42,h43⟩:=h4 _ HF.out
               injection h41 with e1 e2 e3
               subst e1 e2 e3
               obtain⟨s4,c4',hs4⟩:=h43 k hk
               have HS4:=ah hs4
               clear hs4 h43 hp)
  go_ret
  exact⟨_,rfl,by rw[HV.out];exact HS4.out,aF _ _⟩
 |none=>
  have HV:=ah (show formV r k=if k=0\/k=3 then[(Cases.nL r).1]else[(Cases.nL r).2]by unfold formV;rw[hf,Cases.YV])
  have HF:=ah hf;clear hf
  obtain⟨x,hx⟩:∃x,(Cases.nL r).1=x:=⟨_,rfl⟩
  obtain⟨y,hy⟩:∃y,(Cases.nL r).2=y:=⟨_,rfl⟩
  have HX:=ah hx;have HY:=ah hy;clear hx hy
  rw[HX.out,HY.out]at HV
  rw[HV.out]
  obtain rfl|rfl|rfl|rfl:k=0\/k=1\/k=2\/k=3:=by omega
  all_goals
   go_enter Tryz.func67,Tryz.ntmps67
   go_wp2_with (first
    |(go_at_call 112
      refine nT.out.mono ?_
      rintro e w2 ⟨⟨p,n,c,rfl,hp,h4⟩,rfl⟩
      rw[HF.out]at hp
      have hz:=λw=>TR p n c w
      rw[hp]at hz
      clear h4 hp)
    |(go_at_call 111
      refine HP.out.mono ?_
      rintro e w3 ⟨rfl,hb⟩
      rw[HX.out,HY.out]
      have HB:=ah hb;clear hb))
   go_ret
   exact⟨_,rfl,JD _ _ _ rfl,HB.out.alloc HB.out.size _⟩
section
open Folds (dec bf bW)
open uG (bt sP ow)
theorem mH (r:Int) (w:World):Calls Tryz.prog 163 #[.int .i32 r] w λe w'=>e= .returned (.bool (vC r))/\w'=w:=by
 unfold vC;by_cases h1:0<=r
 ·by_cases h2:r<=1114111
  ·by_cases h3:r<55296
   ·go_enter Tryz.func163,Tryz.ntmps163;go_wp2;go_ret;exact⟨by simp;try omega,rfl⟩
   ·by_cases h4:57343<r
    ·go_enter Tryz.func163,Tryz.ntmps163;go_wp2;go_ret;exact⟨by simp;try omega,rfl⟩
    ·go_enter Tryz.func163,Tryz.ntmps163;go_wp2;go_ret;exact⟨by simp;try omega,rfl⟩
  ·go_enter Tryz.func163,Tryz.ntmps163;go_wp2;go_ret;exact⟨by simp;try omega,rfl⟩
 ·go_enter Tryz.func163,Tryz.ntmps163;go_wp2;go_ret;exact⟨by simp;try omega,rfl⟩
def lH (r:Int):Nat:=if vC r=true then(if r<128 then 1 else if r<2048 then 2 else if r<65536 then 3 else 4)else 0
theorem iY (r:Int) (w:World):Calls Tryz.prog 160 #[.int .i32 r] w λe w'=>e= .returned (.int .i64 (lH r))/\w'=w:=by
 unfold lH;cases h:vC r with
 |false=>go_enter Tryz.func160,Tryz.ntmps160;go_wp2_with (go_at_call 163;refine(mH r _).mono ?_;rintro e w1 ⟨rfl,rfl⟩;rw[h]);go_ret;exact⟨rfl,rfl⟩
 |true=>
  rw[ak rfl];by_cases h1:r<128;·rw[ak h1];go_enter Tryz.func160,Tryz.ntmps160;go_wp2_with (go_at_call 163;refine(mH r _).mono ?_;rintro e w1 ⟨rfl,rfl⟩;rw[h]);go_ret;exact⟨rfl,rfl⟩
  ·rw[aj h1];by_cases h2:r<2048
   ·rw[ak h2];go_enter Tryz.func160,Tryz.ntmps160;go_wp2_with (go_at_call 163;refine(mH r _).mono ?_;rintro e w1 ⟨rfl,rfl⟩;rw[h]);go_ret;exact⟨rfl,rfl⟩
   ·rw[aj h2];by_cases h3:r<65536
    ·rw[ak h3];go_enter Tryz.func160,Tryz.ntmps160;go_wp2_with (go_at_call 163;refine(mH r _).mono ?_;rintro e w1 ⟨rfl,rfl⟩;rw[h]);go_ret;exact⟨rfl,rfl⟩
    ·rw[aj h3];go_enter Tryz.func160,Tryz.ntmps160;go_wp2_with (go_at_call 163;refine(mH r _).mono ?_;rintro e w1 ⟨rfl,rfl⟩;rw[h]);go_ret;exact⟨rfl,rfl⟩
theorem acV (r:Int) (_h0:0<=r) (_h1:r<=1114111) (w:World):Calls Tryz.prog 164 #[.int .i32 r, .int .i64 0] w λe w'=>e= .returned (.int .u8 (128+r%64))/\w'=w:=by go_enter Tryz.func164,Tryz.ntmps164;go_wp2;go_ret;exact⟨by first|rfl|(congr 1;omega),rfl⟩
theorem acW (r:Int) (_h0:0<=r) (_h1:r<=1114111) (w:World):Calls Tryz.prog 164 #[.int .i32 r, .int .i64 6] w λe w'=>e= .returned (.int .u8 (128+r/64%64))/\w'=w:=by go_enter Tryz.func164,Tryz.ntmps164;go_wp2;go_ret;exact⟨by first|rfl|(congr 1;omega),rfl⟩
theorem ZL (r:Int) (_h0:0<=r) (_h1:r<=1114111) (w:World):Calls Tryz.prog 164 #[.int .i32 r, .int .i64 12] w λe w'=>e= .returned (.int .u8 (128+r/4096%64))/\w'=w:=by go_enter Tryz.func164,Tryz.ntmps164;go_wp2;go_ret;exact⟨by first|rfl|(congr 1;omega),rfl⟩
def mI (c:Int):Int×Int:=if c<128 then(1,c)else if 192<=c/\c<224 then(2,c%32)else if 224<=c/\c<240 then(3,c%16)else if 240<=c/\c<248 then(4,c%8)else(0,0)
def Ow (c:Int) (w:World) (e:Ending) (w':World):Prop:=e= .returned (.tuple #[.int .i64 (mI c).1, .int .i32 (mI c).2])/\w'=w
theorem rC (c:Int) (h0:0<=c) (h1:c<256) (w:World):Calls Tryz.prog 159 #[.int .u8 c] w (Ow c w):=by
 unfold Ow mI;by_cases a1:c<128;·rw[ak a1];go_enter Tryz.func159,Tryz.ntmps159;go_wp2;go_ret2;exact⟨rfl,rfl⟩
 ·rw[aj a1];by_cases a2:c<192
  ·rw[aj (by omega),aj (by omega),aj (by omega)];go_enter Tryz.func159,Tryz.ntmps159;go_wp2;go_ret2;exact⟨rfl,rfl⟩
  ·by_cases a3:c<224
   ·rw[ak (by omega)];go_enter Tryz.func159,Tryz.ntmps159;go_wp2;go_ret2;exact⟨rfl,rfl⟩
   ·rw[aj (by omega)];by_cases a4:c<240
    ·rw[ak (by omega)];go_enter Tryz.func159,Tryz.ntmps159;go_wp2;go_ret2;exact⟨rfl,rfl⟩
    ·rw[aj (by omega)];by_cases a5:c<248
     ·rw[ak (by omega)];go_enter Tryz.func159,Tryz.ntmps159;go_wp2;go_ret2;exact⟨rfl,rfl⟩
     ·rw[aj (by omega)];go_enter Tryz.func159,Tryz.ntmps159;go_wp2;go_ret2;exact⟨rfl,rfl⟩
end
section
open uG (bt sP ow)
def Ri (r u:Int):Int:=if u=0 then r%64 else if u=6 then r/64%64 else r/4096%64
theorem Rj (r u:Int) (hu:u=0\/u=6\/u=12) (h0:0<=r) (h1:r<=1114111) (w:World):Calls Tryz.prog 164 #[.int .i32 r, .int .i64 u] w λe w'=>e= .returned (.int .u8 (128+Ri r u))/\w'=w:=by
 rcases hu with rfl|rfl|rfl;·exact acV r h0 h1 w
 ·exact acW r h0 h1 w
 ·exact ZL r h0 h1 w
theorem LJ (w:World) (ty:TypeId) (xs:List Int) (l:List UInt8) (hl:l.length=xs.length) (hx:∀j,j<xs.length->xs.getD j 0=(bt l j:Int)):
 BR (w.alloc (.cells (xs.map (Value.int .u8)).toArray ty)) (w.heap.size+1) (some ⟨w.heap.size,0,none⟩) xs.length l:=by
 refine⟨hl,λ_=>⟨w.heap.size,0,rfl,lX _,λj hj=> ?_⟩⟩;rw[bL,bA _ _ _ _ _ _ (cO w _),<-hx j hj];simp[hj]
def o7 (r:Int) (w:World) (e:Ending) (w':World):Prop:=e= .returned (.string ⟨(encR r).toArray⟩)/\Below w.heap.size w w'
theorem Fh (c:Nat) (h:vC (c:Int)=true):encR (c:Int)=wh c:=by rw[Zi _ h,jV]
theorem Ag (c:Nat) (h:vC (c:Int)=true) (hc:c<128) (w:World):Calls Tryz.prog 113 #[.int .i32 (c:Int)] w (o7 c w):=by
 have hw:lH (c:Int)=1:=by unfold lH;rw[ak h,ak (by omega)]
 have hcv:=λk=>uH (LJ w 5 [(c:Int)] (wh c) (by unfold wh;rw[ak hc];rfl) (λj hj=>by
  unfold wh;rw[ak hc];match j,hj with
  |0,_=>show(c:Int)=((UInt8.ofNat c).toNat:Int);rw[ofNat_lt c (by omega)])) k
 rw[show[(c:Int)].map (Value.int .u8)=[.int .u8 (c:Int)]from rfl,show[(c:Int)].length=1 from rfl]at hcv;unfold o7;rw[Fh c h];have H:=ah h;have HW:=ah hw;clear h hw;go_enter Tryz.func113,Tryz.ntmps113;go_wp2_with (first
  |(go_at_call 163;refine(mH _ _).mono ?_;rintro e w1 ⟨rfl,rfl⟩;rw[H.out])
  |(go_at_call 160;refine(iY _ _).mono ?_;rintro e w1 ⟨rfl,rfl⟩;rw[HW.out]))
 go_ret;exact⟨rfl,(aF _ _).alloc (ay _) _⟩
theorem acX (c:Nat) (h:vC (c:Int)=true) (hc:¬c<128) (hd:c<2048) (w:World):Calls Tryz.prog 113 #[.int .i32 (c:Int)] w (o7 c w):=by
 have hw:lH (c:Int)=2:=by unfold lH;rw[ak h,aj (by omega),ak (by omega)]
 have hcv:=λk=>uH (LJ w 5 [192+(c:Int)/64,128+(c:Int)%64] (wh c) (by unfold wh;rw[aj hc,ak hd];rfl) (λj hj=>by
  unfold wh;rw[aj hc,ak hd];match j,hj with
  |0,_=>show 192+(c:Int)/64=((UInt8.ofNat (192+c/64)).toNat:Int);rw[ofNat_lt _ (by omega)];omega
  |1,_=>show 128+(c:Int)%64=((UInt8.ofNat (128+c%64)).toNat:Int);rw[ofNat_lt _ (by omega)];omega)) k
 rw[show[192+(c:Int)/64,128+(c:Int)%64].map (Value.int .u8)=[.int .u8 (192+(c:Int)/64), .int .u8 (128+(c:Int)%64)]from rfl,show[192+(c:Int)/64,128+(c:Int)%64].length=2 from rfl]at hcv;unfold o7;rw[Fh c h];have H:=ah h;have HW:=ah hw;clear h hw;go_enter Tryz.func113,Tryz.ntmps113;go_wp2_with (first
  |(go_at_call 163;refine(mH _ _).mono ?_;rintro e w1 ⟨rfl,rfl⟩;rw[H.out])
  |(go_at_call 160;refine(iY _ _).mono ?_;rintro e w1 ⟨rfl,rfl⟩;rw[HW.out])
  |(go_at_call 164;refine(Rj _ _ (by decide) (by omega) (by omega) _).mono ?_;rintro e w1 ⟨rfl,rfl⟩;rw[show Ri (c:Int) 0=(c:Int)%64 from rfl]))
 go_ret;exact⟨rfl,(aF _ _).alloc (ay _) _⟩
theorem acY (c:Nat) (h:vC (c:Int)=true) (hc:¬c<2048) (hd:c<65536) (w:World):Calls Tryz.prog 113 #[.int .i32 (c:Int)] w (o7 c w):=by
 have hw:lH (c:Int)=3:=by unfold lH;rw[ak h,aj (by omega),aj (by omega),ak (by omega)]
 have hcv:=λk=>uH (LJ w 5 [224+(c:Int)/4096,128+(c:Int)/64%64,128+(c:Int)%64] (wh c) (by unfold wh;rw[aj (by omega),aj (by omega),ak hd];rfl) (λj hj=>by
  unfold wh;rw[aj (by omega),aj (by omega),ak hd];match j,hj with
  |0,_=>show 224+(c:Int)/4096=((UInt8.ofNat (224+c/4096)).toNat:Int);rw[ofNat_lt _ (by omega)];omega
  |1,_=>show 128+(c:Int)/64%64=((UInt8.ofNat (128+c/64%64)).toNat:Int);rw[ofNat_lt _ (by omega)];omega
  |2,_=>show 128+(c:Int)%64=((UInt8.ofNat (128+c%64)).toNat:Int);rw[ofNat_lt _ (by omega)];omega)) k
 rw[show[224+(c:Int)/4096,128+(c:Int)/64%64,128+(c:Int)%64].map (Value.int .u8)=[.int .u8 (224+(c:Int)/4096), .int .u8 (128+(c:Int)/64%64), .int .u8 (128+(c:Int)%64)]from rfl,show[224+(c:Int)/4096,128+(c:Int)/64%64,128+(c:Int)%64].length=3 from rfl]at hcv;unfold o7;rw[Fh c h];have H:=ah h;have HW:=ah hw;clear h hw;go_enter Tryz.func113,Tryz.ntmps113;go_wp2_with (first
  |(go_at_call 163;refine(mH _ _).mono ?_;rintro e w1 ⟨rfl,rfl⟩;rw[H.out])
  |(go_at_call 160;refine(iY _ _).mono ?_;rintro e w1 ⟨rfl,rfl⟩;rw[HW.out])
  |(go_at_call 164;refine(Rj _ _ (by decide) (by omega) (by omega) _).mono ?_;rintro e w1 ⟨rfl,rfl⟩;first|rw[show Ri (c:Int) 0=(c:Int)%64 from rfl]|rw[show Ri (c:Int) 6=(c:Int)/64%64 from rfl]))
 go_ret;exact⟨rfl,(aF _ _).alloc (ay _) _⟩
theorem acZ (c:Nat) (h:vC (c:Int)=true) (hc:¬c<65536) (w:World):Calls Tryz.prog 113 #[.int .i32 (c:Int)] w (o7 c w):=by
 have hR:=(kH _).1 h;have hw:lH (c:Int)=4:=by unfold lH;rw[ak h,aj (by omega),aj (by omega),aj (by omega)]
 have hcv:=λk=>uH (LJ w 5 [240+(c:Int)/262144,128+(c:Int)/4096%64,128+(c:Int)/64%64,128+(c:Int)%64] (wh c) (by unfold wh;rw[aj (by omega),aj (by omega),aj hc];rfl) (λj hj=>by
  unfold wh;rw[aj (by omega),aj (by omega),aj hc];match j,hj with
  |0,_=>show 240+(c:Int)/262144=((UInt8.ofNat (240+c/262144)).toNat:Int);rw[ofNat_lt _ (by omega)];omega
  |1,_=>show 128+(c:Int)/4096%64=((UInt8.ofNat (128+c/4096%64)).toNat:Int);rw[ofNat_lt _ (by omega)];omega
  |2,_=>show 128+(c:Int)/64%64=((UInt8.ofNat (128+c/64%64)).toNat:Int);rw[ofNat_lt _ (by omega)];omega
  |3,_=>show 128+(c:Int)%64=((UInt8.ofNat (128+c%64)).toNat:Int);rw[ofNat_lt _ (by omega)];omega)) k
 rw[show[240+(c:Int)/262144,128+(c:Int)/4096%64,128+(c:Int)/64%64,128+(c:Int)%64].map (Value.int .u8)=[.int .u8 (240+(c:Int)/262144), .int .u8 (128+(c:Int)/4096%64), .int .u8 (128+(c:Int)/64%64), .int .u8 (128+(c:Int)%64)]from rfl,show[240+(c:Int)/262144,128+(c:Int)/4096%64,128+(c:Int)/64%64,128+(c:Int)%64].length=4 from rfl]at hcv;unfold o7;rw[Fh c h];have H:=ah h;have HW:=ah hw;clear h hw;obtain⟨_,hc2,_⟩:=hR;go_enter Tryz.func113,Tryz.ntmps113;go_wp2_with (first
  |(go_at_call 163;refine(mH _ _).mono ?_;rintro e w1 ⟨rfl,rfl⟩;rw[H.out])
  |(go_at_call 160;refine(iY _ _).mono ?_;rintro e w1 ⟨rfl,rfl⟩;rw[HW.out])
  |(go_at_call 164;refine(Rj _ _ (by decide) (by omega) (by omega) _).mono ?_;rintro e w1 ⟨rfl,rfl⟩;first|rw[show Ri (c:Int) 0=(c:Int)%64 from rfl]|rw[show Ri (c:Int) 6=(c:Int)/64%64 from rfl]|rw[show Ri (c:Int) 12=(c:Int)/4096%64 from rfl]))
 go_ret;exact⟨rfl,(aF _ _).alloc (ay _) _⟩
theorem Rk (r:Int) (h:vC r=true) (w:World):Calls Tryz.prog 113 #[.int .i32 r] w (o7 r w):=by
 obtain⟨c,rfl⟩:=EX ((kH _).1 h).1;by_cases h1:c<128;·exact Ag c h h1 w
 ·by_cases h2:c<2048
  ·exact acX c h h1 h2 w
  ·by_cases h3:c<65536
   ·exact acY c h h2 h3 w
   ·exact acZ c h h3 w
theorem ZM (l:List Int) (v:Value) (W:World) (h:iq W v l) (hl:l.length<=100) (hv:∀x∈l,vC x=true):Calls Tryz.prog 66 #[v] W (NQ l W):=by
 obtain⟨A,c,rfl,hc,hcell⟩:=h;obtain⟨n,hn⟩:∃n,l.length=n:=⟨_,rfl⟩
 have HC:=ah hcell;have HN:=ah hn;have HV:=ah hv;clear hcell hv;rw[hn]at hl hc⊢;clear hn;obtain⟨i0,hi0,hz0,hz1,hz2⟩:=eD xZ;go_enter Tryz.func66,Tryz.ntmps66;go_wp2;go_loopw [3,4] (λvb i wr=>∃k:Nat,k<=n/\i= .int .i64 k/\TxL W l k vb wr) (λ_ i _=>n-(RowKit.intOf i).toNat);case atStart=>exact⟨0,aH _,rfl,aF _ _,⟨rfl, .inl ⟨rfl,rfl⟩⟩⟩
 case round=>
  obtain⟨k,hk,rfl,hE⟩:=hrel;have HE:=ah hE;clear hE;obtain⟨A1,c1,rfl,_⟩:=jo HE.out.own;by_cases hlt:k<n
  ·obtain⟨g,o,rfl,hg⟩:=HC.out (by rw[HN.out];omega);have d0:=hg k (by rw[HN.out];exact hlt);have hgs:=dO d0;rw[<-HE.out.aB.cell (p:=⟨g,o+k,none⟩) hgs]at d0;clear hg hgs;have hrv:vC (l.getD k 0)=true:=HV.out _ (by
    rw[aM,aX (by rw[HN.out];exact hlt)];exact l6 _)
   obtain⟨r,hr⟩:∃r,l.getD k 0=r:=⟨_,rfl⟩
   rw[hr]at d0 hrv;have HRV:=ah hrv;have HT:=ah (JC l (k:=k) (by rw[HN.out];exact hlt));have HR:=ah hr;clear hr hrv;have hlen:=vW (l.take k);rw[eU]at hlen;have hlr:=GN r;have HL:=ah (And.intro hlen hlr);clear hlen hlr;go_wp2_with (first
    |(go_at_call 113;refine(Rk r HRV.out _).mono ?_;rintro e w1 ⟨rfl,hb1⟩;have HB1:=ah hb1;clear hb1;have HO1:=ah (own_below HB1.out HE.out.own))
    |(at_builtin
      (refine jF _ rfl (.tmp 11) (.tmp 16) 65 9 5 rfl Tryz.underlying65 Tryz.underlying9 W.heap.size i0 hi0 hz0 hz1 hz2 _ _ _ rfl HO1.out (encR r) _ rfl rfl ?_ ?_ ?_);·have:=HL.out;have:=HN.out;omega
      ·exact aS HE.out.aB.size HB1.out.size
      intro v' w2 hown2 hgrow2 af4;obtain⟨A2,c2,rfl,_⟩:=jo hown2;have HO2:=ah hown2;have HG2:=ah hgrow2;clear hown2 hgrow2 af4))
   go_roundw;case rel=>
    refine⟨k+1,hlt,by go_num,?_,?_⟩;·exact(HE.out.aB.trans (HB1.out.mono HE.out.aB.size)).grown HG2.out (aS HE.out.aB.size HB1.out.size) (λg hg=>(bB HO1.out hg).1)
    ·have:=HO2.out;rw[<-qg,<-HR.out]at this;rw[<-HR.out,HT.out,bG];exact this
   case measure=>simp[RowKit.intOf];omega
  ·obtain rfl:k=n:=by omega
   have htk:l.take k=l:=nC (by rw[HN.out];exact ay _);obtain⟨hl2,A2,c2,he,hbr,_⟩:=BR.QI HE.out.own;injection he with e1 e2 e3;subst e1;have Tn:=λc=>uH hbr c;rw[htk]at Tn;have Er:=ah htk;clear htk hbr;rw[Er.out];go_wp2;go_ret;exact⟨rfl,HE.out.aB⟩
end
section
open Folds (dec bf bW)
open uG (bt sP ow)
theorem ZN:((List.range 256).all λb=>(bits BinOp.and IntKind.u8 (b:Int) 192 !=128)==decide (b/64≠2))=true:=by decide+kernel
theorem pF {b:Nat} (h:b<256):(bits BinOp.and IntKind.u8 (b:Int) 192 !=128)=decide (b/64≠2):=by have:=gF.1 ZN b (mh.2 h);exact eq_of_beq this
theorem byte_at (s:ByteArray) (l:List UInt8) (hs:(⟨l.toArray⟩:ByteArray)=s) (i:Nat) (h:i<s.size):(s[i]'h).toNat=bt l i:=by
 subst hs;have h':i<l.length:=by simpa[ByteArray.size]using h
 show((⟨l.toArray⟩:ByteArray).data[i]'(by simpa using h')).toNat=_;unfold bt;rw[aM,aX h'];simp
def mJ (n b0 b1 b2 b3:Nat) (w:World) (e:Ending) (w':World):Prop:=e= .returned (.tuple #[.int .i32 (decodeN n b0 b1 b2 b3).1, .int .i64 (decodeN n b0 b1 b2 b3).2])/\w'=w
theorem dz {n b0 b1 b2 b3 r k:Nat} {w:World} (h:decodeN n b0 b1 b2 b3=(r,k)) {v:Value} (hv:v= .tuple #[.int .i32 (r:Nat), .int .i64 (k:Nat)]):mJ n b0 b1 b2 b3 w (.returned v) w:=by subst hv;unfold mJ;rw[h];exact⟨rfl,rfl⟩
theorem fault0 (n b0 b1 b2 b3:Nat) (h:(128<=b0/\b0<192)\/(248<=b0/\b0<256)):decodeN n b0 b1 b2 b3=(65533,1):=by unfold decodeN;rw[aj (by omega),aj (by omega),aj (by omega),aj (by omega)]
theorem fault2 (n b0 b1 b2 b3:Nat) (h:192<=b0/\b0<224) (h2:n<2\/b1/64≠2\/b0%32*64+b1%64<128):decodeN n b0 b1 b2 b3=(65533,1):=by
 unfold decodeN;rw[aj (by omega)];by_cases c:b0/32=6/\(1<n/\b1/64=2)
 ·rw[ak c,aj (by omega)]
 ·rw[aj c,aj (by omega),aj (by omega)]
theorem ajB (n b0 b1 b2 b3:Nat) (h:192<=b0/\b0<224) (h2:2<=n/\b1/64=2/\128<=b0%32*64+b1%64):decodeN n b0 b1 b2 b3=(b0%32*64+b1%64,2):=by unfold decodeN;rw[aj (by omega),ak (by omega),ak (by omega)]
theorem fault3 (n b0 b1 b2 b3:Nat) (h:224<=b0/\b0<240) (h2:n<3\/b1/64≠2\/b2/64≠2\/¬(b0%16*4096+b1%64*64+b2%64≥2048/\(b0%16*4096+b1%64*64+b2%64<55296\/57344<=b0%16*4096+b1%64*64+b2%64))):decodeN n b0 b1 b2 b3=(65533,1):=by
 unfold decodeN;rw[aj (by omega),aj (by omega)];by_cases c:b0/16=14/\(1<n/\b1/64=2)/\(2<n/\b2/64=2)
 ·rw[ak c,aj (by omega)]
 ·rw[aj c,aj (by omega)]
theorem ajC (n b0 b1 b2 b3:Nat) (h:224<=b0/\b0<240) (h2:3<=n/\b1/64=2/\b2/64=2/\(b0%16*4096+b1%64*64+b2%64≥2048/\(b0%16*4096+b1%64*64+b2%64<55296\/57344<=b0%16*4096+b1%64*64+b2%64))):decodeN n b0 b1 b2 b3=(b0%16*4096+b1%64*64+b2%64,3):=by unfold decodeN;rw[aj (by omega),aj (by omega),ak (by omega),ak (by omega)]
theorem fault4 (n b0 b1 b2 b3:Nat) (h:240<=b0/\b0<248) (h2:n<4\/b1/64≠2\/b2/64≠2\/b3/64≠2\/¬(b0%8*262144+b1%64*4096+b2%64*64+b3%64≥65536/\b0%8*262144+b1%64*4096+b2%64*64+b3%64<=1114111)):decodeN n b0 b1 b2 b3=(65533,1):=by
 unfold decodeN;rw[aj (by omega),aj (by omega),aj (by omega)];by_cases c:b0/8=30/\(1<n/\b1/64=2)/\(2<n/\b2/64=2)/\(3<n/\b3/64=2)
 ·rw[ak c,aj (by omega)]
 ·rw[aj c]
theorem ajD (n b0 b1 b2 b3:Nat) (h:240<=b0/\b0<248) (h2:4<=n/\b1/64=2/\b2/64=2/\b3/64=2/\(b0%8*262144+b1%64*4096+b2%64*64+b3%64≥65536/\b0%8*262144+b1%64*4096+b2%64*64+b3%64<=1114111)):decodeN n b0 b1 b2 b3=(b0%8*262144+b1%64*4096+b2%64*64+b3%64,4):=by unfold decodeN;rw[aj (by omega),aj (by omega),aj (by omega),ak (by omega),ak (by omega)]
theorem TS (s:ByteArray) (h:0<s.size) (b0 b1 b2 b3:Nat) (x0:(s[0]'h).toNat=b0) (hb:(128<=b0/\b0<192)\/(248<=b0/\b0<256)) (w:World):Calls Tryz.prog 107 #[.string s] w (mJ s.size b0 b1 b2 b3 w):=by
 have HL:=ah (show mI (b0:Int)=(0,0)by unfold mI;rw[aj (by omega),aj (by omega),aj (by omega),aj (by omega)]);have HD:=ah (fault0 s.size b0 b1 b2 b3 hb);have HB:=ah (show b0<256 by omega);clear hb;have hne:((s.size:Int)==0)=false:=by rw[dB];omega
 go_enter Tryz.func107,Tryz.ntmps107;go_wp2_with (go_at_call 159;refine(rC _ (by omega) (by have:=HB.out;omega) _).mono ?_;rintro e w1 ⟨rfl,rfl⟩;rw[HL.out]);go_ret2;exact dz HD.out rfl
theorem ac0 (s:ByteArray) (h:0<s.size) (b0 b1 b2 b3:Nat) (x0:(s[0]'h).toNat=b0) (hb:b0<128) (w:World):Calls Tryz.prog 107 #[.string s] w (mJ s.size b0 b1 b2 b3 w):=by
 have HL:=ah (show mI (b0:Int)=(1,(b0:Int))by unfold mI;rw[ak (by omega)]);have HD:=ah (decodeN_ascii s.size b0 b1 b2 b3 hb);have HB:=ah hb;have HW:=ah (show lH (b0:Int)=1 by unfold lH;rw[ak ((kH _).2 (by omega)),ak (by omega)]);clear hb;have hne:((s.size:Int)==0)=false:=by rw[dB];omega
 go_enter Tryz.func107,Tryz.ntmps107;go_wp2_with (go_at_call 159;refine(rC _ (by omega) (by have:=HB.out;omega) _).mono ?_;rintro e w1 ⟨rfl,rfl⟩;rw[HL.out]);go_loopw [6,5] (λvi vr wr=>wr=w1/\vi= .int .i64 1/\vr= .int .i32 (b0:Int)) (λ_ _ _=>0);case atStart=>exact⟨rfl,rfl,rfl⟩
 case round=>obtain⟨rfl,rfl,rfl⟩:=hrel;go_wp2_with (go_at_call 160;refine(iY _ _).mono ?_;rintro e w2 ⟨rfl,rfl⟩;rw[HW.out]);go_ret2;exact dz HD.out rfl
theorem ac1 (rr:Int) (h0:0<=rr) (h1:rr<=2047) (h:¬(128<=rr)):lH rr≠2:=by
 unfold lH;by_cases c:vC rr=true
 ·have:=(kH _).1 c;rw[ak c];repeat' split
  all_goals omega
 ·rw[aj c];omega
theorem ZO (s:ByteArray) (h:0<s.size) (hk:s.size<2) (b0 b1 b2 b3:Nat) (x0:(s[0]'h).toNat=b0) (a0:192<=b0) (a1:b0<224) (w:World):Calls Tryz.prog 107 #[.string s] w (mJ s.size b0 b1 b2 b3 w):=by
 have HL:=ah (show mI (b0:Int)=(2,(b0:Int)%32)by unfold mI;rw[aj (by omega),ak (by omega)]);have HD:=ah (fault2 s.size b0 b1 b2 b3 ⟨a0,a1⟩ (.inl hk));have HB:=ah (show b0<256 by omega);clear a0 a1;have hne:((s.size:Int)==0)=false:=by rw[dB];omega
 go_enter Tryz.func107,Tryz.ntmps107;go_wp2_with (go_at_call 159;refine(rC _ (by omega) (by have:=HB.out;omega) _).mono ?_;rintro e w1 ⟨rfl,rfl⟩;rw[HL.out]);go_ret2;exact dz HD.out rfl
theorem ac2 (s:ByteArray) (hk:2<=s.size) (hz:s.size<=100000) (b0 b1 b2 b3:Nat) (x0:(s[0]'(by omega)).toNat=b0) (x1:(s[1]'(by omega)).toNat=b1) (h1:b1<256) (a0:192<=b0) (a1:b0<224) (w:World):Calls Tryz.prog 107 #[.string s] w (mJ s.size b0 b1 b2 b3 w):=by
 have HL:=ah (show mI (b0:Int)=(2,(b0:Int)%32)by unfold mI;rw[aj (by omega),ak (by omega)]);have HF:=ah (fault2 s.size b0 b1 b2 b3 ⟨a0,a1⟩);have HG:=ah (ajB s.size b0 b1 b2 b3 ⟨a0,a1⟩);have HB:=ah (show b0<256 by omega);have HC1:=ah (pF h1);have hne:((s.size:Int)==0)=false:=by rw[dB];omega
 have hsz:decide ((s.size:Int)<2)=false:=aZ (by omega);clear a0 a1;go_enter Tryz.func107,Tryz.ntmps107;go_wp2_with (go_at_call 159;refine(rC _ (by omega) (by have:=HB.out;omega) _).mono ?_;rintro e w1 ⟨rfl,rfl⟩;rw[HL.out]);obtain⟨r0,hr0⟩:∃r0:Int,(b0:Int)%32=r0:=⟨_,rfl⟩
 have q0:0<=r0:=by omega
 have q1:r0<32:=by omega
 rw[hr0];have LM:=ah hr0;clear hr0;go_loopw [6,5] (λvi vr wr=>wr=w1/\((vi= .int .i64 1/\vr= .int .i32 r0)\/(vi= .int .i64 2/\vr= .int .i32 (r0*64+(b1:Int)%64)/\b1/64=2))) (λvi _ _=>(2-RowKit.intOf vi).toNat);case atStart=>exact⟨rfl, .inl ⟨rfl,rfl⟩⟩
 case round=>
  obtain⟨rfl,⟨rfl,rfl⟩|⟨rfl,rfl,k1⟩⟩:=hrel
  ·by_cases c1:b1/64=2
   ·have hc:(bits BinOp.and IntKind.u8 (b1:Int) 192 !=128)=false:=by rw[HC1.out];exact aZ (λh=>h c1)
    have C1:=ah c1;clear c1;go_wp2_with fail;go_roundw;case rel=>exact⟨by first|rfl|trivial, .inr (⟨rfl,rfl,C1.out⟩)⟩
    case measure=>simp[RowKit.intOf]
   ·have hc:(bits BinOp.and IntKind.u8 (b1:Int) 192 !=128)=true:=by rw[HC1.out];exact bE c1
    have C1:=ah c1;clear c1;go_wp2_with fail;go_ret2;exact dz (HF.out (.inr (.inl C1.out))) rfl
  ·have K1:=ah k1;clear k1;obtain⟨rr,hrr⟩:∃rr:Int,(r0*64+(b1:Int)%64)=rr:=⟨_,rfl⟩
   have HRR:=ah hrr;have hfull:rr=((b0%32*64+b1%64:Nat):Int):=by have:=LM.out;omega
   have hub:0<=rr/\rr<=2047:=by omega
   by_cases cw:128<=rr;·have HW:=ah (show lH rr=2 by unfold lH;rw[ak ((kH _).2 (by omega)),aj (by omega),ak (by omega)]);have HD:=ah (HG.out ⟨hk,K1.out,by omega⟩);have HFU:=ah hfull;clear hrr hfull cw hub;go_wp2_with (go_at_call 160;refine(iY _ _).mono ?_;rintro e w2 ⟨rfl,rfl⟩;rw[HRR.out,HW.out]);go_ret2;exact dz HD.out (by rw[<-HFU.out,<-HRR.out];rfl)
   ·have hwne:lH rr≠2:=ac1 rr hub.1 hub.2 cw;have HD:=ah (HF.out (.inr (.inr (by omega))));obtain⟨ww,ZP⟩:∃ww,lH rr=ww:=⟨_,rfl⟩
    rw[ZP]at hwne;have HW:=ah ZP;have hb:(((ww:Nat):Int) !=2)=true:=by simp;omega
    clear hrr hfull cw hub ZP;go_wp2_with (go_at_call 160;refine(iY _ _).mono ?_;rintro e w2 ⟨rfl,rfl⟩;rw[HRR.out,HW.out]);go_ret2;exact dz HD.out rfl
theorem ac3 (rr:Int) (h0:0<=rr) (h1:rr<=65535) (h:¬(2048<=rr/\(rr<55296\/57343<rr))):lH rr≠3:=by
 unfold lH;by_cases c:vC rr=true
 ·have:=(kH _).1 c;rw[ak c];repeat' split
  all_goals omega
 ·rw[aj c];omega
theorem ZQ (s:ByteArray) (h:0<s.size) (hk:s.size<3) (b0 b1 b2 b3:Nat) (x0:(s[0]'h).toNat=b0) (a0:224<=b0) (a1:b0<240) (w:World):Calls Tryz.prog 107 #[.string s] w (mJ s.size b0 b1 b2 b3 w):=by
 have HL:=ah (show mI (b0:Int)=(3,(b0:Int)%16)by unfold mI;rw[aj (by omega),aj (by omega),ak (by omega)]);have HD:=ah (fault3 s.size b0 b1 b2 b3 ⟨a0,a1⟩ (.inl hk));have HB:=ah (show b0<256 by omega);clear a0 a1;have hne:((s.size:Int)==0)=false:=by rw[dB];omega
 go_enter Tryz.func107,Tryz.ntmps107;go_wp2_with (go_at_call 159;refine(rC _ (by omega) (by have:=HB.out;omega) _).mono ?_;rintro e w1 ⟨rfl,rfl⟩;rw[HL.out]);go_ret2;exact dz HD.out rfl
theorem ac4 (s:ByteArray) (hk:3<=s.size) (hz:s.size<=100000) (b0 b1 b2 b3:Nat) (x0:(s[0]'(by omega)).toNat=b0) (x1:(s[1]'(by omega)).toNat=b1) (x2:(s[2]'(by omega)).toNat=b2) (h1:b1<256) (h2:b2<256) (a0:224<=b0) (a1:b0<240) (w:World):Calls Tryz.prog 107 #[.string s] w (mJ s.size b0 b1 b2 b3 w):=by
 have HL:=ah (show mI (b0:Int)=(3,(b0:Int)%16)by unfold mI;rw[aj (by omega),aj (by omega),ak (by omega)]);have HF:=ah (fault3 s.size b0 b1 b2 b3 ⟨a0,a1⟩);have HG:=ah (ajC s.size b0 b1 b2 b3 ⟨a0,a1⟩);have HB:=ah (show b0<256 by omega);have HC1:=ah (pF h1);have HC2:=ah (pF h2);have hne:((s.size:Int)==0)=false:=by rw[dB];omega
 have hsz:decide ((s.size:Int)<3)=false:=aZ (by omega);clear a0 a1;go_enter Tryz.func107,Tryz.ntmps107;go_wp2_with (go_at_call 159;refine(rC _ (by omega) (by have:=HB.out;omega) _).mono ?_;rintro e w1 ⟨rfl,rfl⟩;rw[HL.out]);obtain⟨r0,hr0⟩:∃r0:Int,(b0:Int)%16=r0:=⟨_,rfl⟩
 have q0:0<=r0:=by omega
 have q1:r0<16:=by omega
 rw[hr0];have LM:=ah hr0;clear hr0;go_loopw [6,5] (λvi vr wr=>wr=w1/\((vi= .int .i64 1/\vr= .int .i32 r0)\/(vi= .int .i64 2/\vr= .int .i32 (r0*64+(b1:Int)%64)/\b1/64=2)\/(vi= .int .i64 3/\vr= .int .i32 ((r0*64+(b1:Int)%64)*64+(b2:Int)%64)/\b1/64=2/\b2/64=2))) (λvi _ _=>(3-RowKit.intOf vi).toNat);case atStart=>exact⟨rfl, .inl ⟨rfl,rfl⟩⟩
 case round=>
  obtain⟨rfl,⟨rfl,rfl⟩|⟨rfl,rfl,k1⟩|⟨rfl,rfl,k1,k2⟩⟩:=hrel
  ·by_cases c1:b1/64=2
   ·have hc:(bits BinOp.and IntKind.u8 (b1:Int) 192 !=128)=false:=by rw[HC1.out];exact aZ (λh=>h c1)
    have C1:=ah c1;clear c1;go_wp2_with fail;go_roundw;case rel=>exact⟨by first|rfl|trivial, .inr (.inl ⟨rfl,rfl,C1.out⟩)⟩
    case measure=>simp[RowKit.intOf]
   ·have hc:(bits BinOp.and IntKind.u8 (b1:Int) 192 !=128)=true:=by rw[HC1.out];exact bE c1
    have C1:=ah c1;clear c1;go_wp2_with fail;go_ret2;exact dz (HF.out (.inr (.inl C1.out))) rfl
  ·have K1:=ah k1;clear k1;by_cases c2:b2/64=2
   ·have hc:(bits BinOp.and IntKind.u8 (b2:Int) 192 !=128)=false:=by rw[HC2.out];exact aZ (λh=>h c2)
    have C2:=ah c2;clear c2;go_wp2_with fail;go_roundw;case rel=>exact⟨by first|rfl|trivial, .inr (.inr (⟨rfl,rfl,K1.out,C2.out⟩))⟩
    case measure=>simp[RowKit.intOf]
   ·have hc:(bits BinOp.and IntKind.u8 (b2:Int) 192 !=128)=true:=by rw[HC2.out];exact bE c2
    have C2:=ah c2;clear c2;go_wp2_with fail;go_ret2;exact dz (HF.out (.inr (.inr (.inl C2.out)))) rfl
  ·have K1:=ah k1;clear k1;have K2:=ah k2;clear k2;obtain⟨rr,hrr⟩:∃rr:Int,((r0*64+(b1:Int)%64)*64+(b2:Int)%64)=rr:=⟨_,rfl⟩
   have HRR:=ah hrr;have hfull:rr=((b0%16*4096+b1%64*64+b2%64:Nat):Int):=by have:=LM.out;omega
   have hub:0<=rr/\rr<=65535:=by omega
   by_cases cw:2048<=rr/\(rr<55296\/57343<rr)
   ·have HW:=ah (show lH rr=3 by unfold lH;rw[ak ((kH _).2 (by omega)),aj (by omega),aj (by omega),ak (by omega)]);have HD:=ah (HG.out ⟨hk,K1.out,K2.out,by omega⟩);have HFU:=ah hfull;clear hrr hfull cw hub;go_wp2_with (go_at_call 160;refine(iY _ _).mono ?_;rintro e w2 ⟨rfl,rfl⟩;rw[HRR.out,HW.out]);go_ret2;exact dz HD.out (by rw[<-HFU.out,<-HRR.out];rfl)
   ·have hwne:lH rr≠3:=ac3 rr hub.1 hub.2 cw;have HD:=ah (HF.out (.inr (.inr (.inr (by omega)))));obtain⟨ww,ZP⟩:∃ww,lH rr=ww:=⟨_,rfl⟩
    rw[ZP]at hwne;have HW:=ah ZP;have hb:(((ww:Nat):Int) !=3)=true:=by simp;omega
    clear hrr hfull cw hub ZP;go_wp2_with (go_at_call 160;refine(iY _ _).mono ?_;rintro e w2 ⟨rfl,rfl⟩;rw[HRR.out,HW.out]);go_ret2;exact dz HD.out rfl
theorem ac5 (rr:Int) (h0:0<=rr) (h1:rr<=2097151) (h:¬(65536<=rr/\rr<=1114111)):lH rr≠4:=by
 unfold lH;by_cases c:vC rr=true
 ·have:=(kH _).1 c;rw[ak c];repeat' split
  all_goals omega
 ·rw[aj c];omega
theorem ZR (s:ByteArray) (h:0<s.size) (hk:s.size<4) (b0 b1 b2 b3:Nat) (x0:(s[0]'h).toNat=b0) (a0:240<=b0) (a1:b0<248) (w:World):Calls Tryz.prog 107 #[.string s] w (mJ s.size b0 b1 b2 b3 w):=by
 have HL:=ah (show mI (b0:Int)=(4,(b0:Int)%8)by unfold mI;rw[aj (by omega),aj (by omega),aj (by omega),ak (by omega)]);have HD:=ah (fault4 s.size b0 b1 b2 b3 ⟨a0,a1⟩ (.inl hk));have HB:=ah (show b0<256 by omega);clear a0 a1;have hne:((s.size:Int)==0)=false:=by rw[dB];omega
 go_enter Tryz.func107,Tryz.ntmps107;go_wp2_with (go_at_call 159;refine(rC _ (by omega) (by have:=HB.out;omega) _).mono ?_;rintro e w1 ⟨rfl,rfl⟩;rw[HL.out]);go_ret2;exact dz HD.out rfl
theorem ac6 (s:ByteArray) (hk:4<=s.size) (hz:s.size<=100000) (b0 b1 b2 b3:Nat) (x0:(s[0]'(by omega)).toNat=b0) (x1:(s[1]'(by omega)).toNat=b1) (x2:(s[2]'(by omega)).toNat=b2) (x3:(s[3]'(by omega)).toNat=b3) (h1:b1<256) (h2:b2<256) (h3:b3<256) (a0:240<=b0) (a1:b0<248) (w:World):Calls Tryz.prog 107 #[.string s] w (mJ s.size b0 b1 b2 b3 w):=by
 have HL:=ah (show mI (b0:Int)=(4,(b0:Int)%8)by unfold mI;rw[aj (by omega),aj (by omega),aj (by omega),ak (by omega)]);have HF:=ah (fault4 s.size b0 b1 b2 b3 ⟨a0,a1⟩);have HG:=ah (ajD s.size b0 b1 b2 b3 ⟨a0,a1⟩);have HB:=ah (show b0<256 by omega);have HC1:=ah (pF h1);have HC2:=ah (pF h2);have HC3:=ah (pF h3);have hne:((s.size:Int)==0)=false:=by rw[dB];omega
 have hsz:decide ((s.size:Int)<4)=false:=aZ (by omega);clear a0 a1;go_enter Tryz.func107,Tryz.ntmps107;go_wp2_with (go_at_call 159;refine(rC _ (by omega) (by have:=HB.out;omega) _).mono ?_;rintro e w1 ⟨rfl,rfl⟩;rw[HL.out]);obtain⟨r0,hr0⟩:∃r0:Int,(b0:Int)%8=r0:=⟨_,rfl⟩
 have q0:0<=r0:=by omega
 have q1:r0<8:=by omega
 rw[hr0];have LM:=ah hr0;clear hr0;go_loopw [6,5] (λvi vr wr=>wr=w1/\((vi= .int .i64 1/\vr= .int .i32 r0)\/(vi= .int .i64 2/\vr= .int .i32 (r0*64+(b1:Int)%64)/\b1/64=2)\/(vi= .int .i64 3/\vr= .int .i32 ((r0*64+(b1:Int)%64)*64+(b2:Int)%64)/\b1/64=2/\b2/64=2)\/(vi= .int .i64 4/\vr= .int .i32 (((r0*64+(b1:Int)%64)*64+(b2:Int)%64)*64+(b3:Int)%64)/\b1/64=2/\b2/64=2/\b3/64=2))) (λvi _ _=>(4-RowKit.intOf vi).toNat);case atStart=>exact⟨rfl, .inl ⟨rfl,rfl⟩⟩
 case round=>
  obtain⟨rfl,⟨rfl,rfl⟩|⟨rfl,rfl,k1⟩|⟨rfl,rfl,k1,k2⟩|⟨rfl,rfl,k1,k2,k3⟩⟩:=hrel
  ·by_cases c1:b1/64=2
   ·have hc:(bits BinOp.and IntKind.u8 (b1:Int) 192 !=128)=false:=by rw[HC1.out];exact aZ (λh=>h c1)
    have C1:=ah c1;clear c1;go_wp2_with fail;go_roundw;case rel=>exact⟨by first|rfl|trivial, .inr (.inl ⟨rfl,rfl,C1.out⟩)⟩
    case measure=>simp[RowKit.intOf]
   ·have hc:(bits BinOp.and IntKind.u8 (b1:Int) 192 !=128)=true:=by rw[HC1.out];exact bE c1
    have C1:=ah c1;clear c1;go_wp2_with fail;go_ret2;exact dz (HF.out (.inr (.inl C1.out))) rfl
  ·have K1:=ah k1;clear k1;by_cases c2:b2/64=2
   ·have hc:(bits BinOp.and IntKind.u8 (b2:Int) 192 !=128)=false:=by rw[HC2.out];exact aZ (λh=>h c2)
    have C2:=ah c2;clear c2;go_wp2_with fail;go_roundw;case rel=>exact⟨by first|rfl|trivial, .inr (.inr (.inl ⟨rfl,rfl,K1.out,C2.out⟩))⟩
    case measure=>simp[RowKit.intOf]
   ·have hc:(bits BinOp.and IntKind.u8 (b2:Int) 192 !=128)=true:=by rw[HC2.out];exact bE c2
    have C2:=ah c2;clear c2;go_wp2_with fail;go_ret2;exact dz (HF.out (.inr (.inr (.inl C2.out)))) rfl
  ·have K1:=ah k1;clear k1;have K2:=ah k2;clear k2;by_cases c3:b3/64=2
   ·have hc:(bits BinOp.and IntKind.u8 (b3:Int) 192 !=128)=false:=by rw[HC3.out];exact aZ (λh=>h c3)
    have C3:=ah c3;clear c3;go_wp2_with fail;go_roundw;case rel=>exact⟨by first|rfl|trivial, .inr (.inr (.inr (⟨rfl,rfl,K1.out,K2.out,C3.out⟩)))⟩
    case measure=>simp[RowKit.intOf]
   ·have hc:(bits BinOp.and IntKind.u8 (b3:Int) 192 !=128)=true:=by rw[HC3.out];exact bE c3
    have C3:=ah c3;clear c3;go_wp2_with fail;go_ret2;exact dz (HF.out (.inr (.inr (.inr (.inl C3.out))))) rfl
  ·have K1:=ah k1;clear k1;have K2:=ah k2;clear k2;have K3:=ah k3;clear k3;obtain⟨rr,hrr⟩:∃rr:Int,(((r0*64+(b1:Int)%64)*64+(b2:Int)%64)*64+(b3:Int)%64)=rr:=⟨_,rfl⟩
   have HRR:=ah hrr;have hfull:rr=((b0%8*262144+b1%64*4096+b2%64*64+b3%64:Nat):Int):=by have:=LM.out;omega
   have hub:0<=rr/\rr<=2097151:=by omega
   by_cases cw:65536<=rr/\rr<=1114111;·have HW:=ah (show lH rr=4 by unfold lH;rw[ak ((kH _).2 (by omega)),aj (by omega),aj (by omega),aj (by omega)]);have HD:=ah (HG.out ⟨hk,K1.out,K2.out,K3.out,by omega⟩);have HFU:=ah hfull;clear hrr hfull cw hub;go_wp2_with (go_at_call 160;refine(iY _ _).mono ?_;rintro e w2 ⟨rfl,rfl⟩;rw[HRR.out,HW.out]);go_ret2;exact dz HD.out (by rw[<-HFU.out,<-HRR.out];rfl)
   ·have hwne:lH rr≠4:=ac5 rr hub.1 hub.2 cw;have HD:=ah (HF.out (.inr (.inr (.inr (.inr (by omega))))));obtain⟨ww,ZP⟩:∃ww,lH rr=ww:=⟨_,rfl⟩
    rw[ZP]at hwne;have HW:=ah ZP;have hb:(((ww:Nat):Int) !=4)=true:=by simp;omega
    clear hrr hfull cw hub ZP;go_wp2_with (go_at_call 160;refine(iY _ _).mono ?_;rintro e w2 ⟨rfl,rfl⟩;rw[HRR.out,HW.out]);go_ret2;exact dz HD.out rfl
theorem Rl (l:List UInt8) (h0:l≠[]) (hz:l.length<=100000) (w:World):Calls Tryz.prog 107 #[.string ⟨l.toArray⟩] w λe w'=>e= .returned (.tuple #[.int .i32 (dec l).1, .int .i64 (dec l).2])/\w'=w:=by
 obtain⟨s,hs⟩:∃s:ByteArray,(⟨l.toArray⟩:ByteArray)=s:=⟨_,rfl⟩
 have hss:s.size=l.length:=size_mk l s hs;have hl:=xM.2 h0;have key:Calls Tryz.prog 107 #[.string s] w (mJ s.size (bt l 0) (bt l 1) (bt l 2) (bt l 3) w):=by
  have b0:=sP l 0;have g:∀i (h:i<s.size),(s[i]'h).toNat=bt l i:=byte_at s l hs;have hs0:0<s.size:=by omega
  by_cases c1:bt l 0<128;·exact ac0 s hs0 _ _ _ _ (g 0 _) c1 w
  ·by_cases c2:bt l 0<192
   ·exact TS s hs0 _ _ _ _ (g 0 _) (by omega) w
   ·by_cases c3:bt l 0<224
    ·by_cases k:s.size<2
     ·exact ZO s hs0 k _ _ _ _ (g 0 _) (by omega) c3 w
     ·exact ac2 s (by omega) (by omega) _ _ _ _ (g 0 _) (g 1 _) (sP l 1) (by omega) c3 w
    ·by_cases c4:bt l 0<240
     ·by_cases k:s.size<3
      ·exact ZQ s hs0 k _ _ _ _ (g 0 _) (by omega) c4 w
      ·exact ac4 s (by omega) (by omega) _ _ _ _ (g 0 _) (g 1 _) (g 2 _) (sP l 1) (sP l 2) (by omega) c4 w
     ·by_cases c5:bt l 0<248
      ·by_cases k:s.size<4
       ·exact ZR s hs0 k _ _ _ _ (g 0 _) (by omega) c5 w
       ·exact ac6 s (by omega) (by omega) _ _ _ _ (g 0 _) (g 1 _) (g 2 _) (g 3 _) (sP l 1) (sP l 2) (sP l 3) (by omega) c5 w
      ·exact TS s hs0 _ _ _ _ (g 0 _) (by omega) w
 rw[hs];rw[hss]at key;exact key
end
section
open Folds (dec bf bW)
abbrev Mk:=Nat×Nat×Nat×Bool
def jR (m:Mk):List Value:=[.int .i64 m.1, .int .i64 m.2.1, .int .i32 m.2.2.1, .bool m.2.2.2]
def jl (l:List Mk):List Value:=l.flatMap jR
theorem Rm (l x:List Mk):jl (l++x)=jl l++jl x:=by simp[jl]
theorem Ro (l:List Mk):(jl l).length=l.length*4:=by
 induction l with
 |nil=>rfl
 |cons a l ih=>show(jR a++jl l).length=_;rw[bG,ih];simp only[jR,bK,gQ];omega
def mk4 (t:List UInt8):Nat->Nat->List Mk
 |0,_=>[]
 |n+1,e=>if e<t.length then(e,(dec (t.drop e)).2,(dec (t.drop e)).1,((dec (t.drop e)).2:Int)==1&&((dec (t.drop e)).1:Int)==65533)::mk4 t n (e+(dec (t.drop e)).2)else[]
def BG (t:List UInt8):List Mk:=mk4 t t.length 0
theorem TT (t:List UInt8):∀n e,(mk4 t n e).length<=n
 |0,_=>ay _
 |n+1,e=>by
  unfold mk4;split;·simp only[bK];have:=TT t n (e+(dec (t.drop e)).2);omega
  ·exact aH _
theorem VU:(Tryz.prog.info? 108).map (λi=>(i.zero,i.size,i.bytes))=some (some (.agg #[.int .i64 0, .int .i64 0, .int .i32 0, .bool false]),4,24):=by kernel_rfl
theorem Ox (w:World) (m:Mk) (ty:TypeId):∀j u,(jR m)[j]? =some u->(w.alloc (.cells (jR m).toArray ty)).cell? ((⟨w.heap.size,0,none⟩:Addr).add j)=some u:=by intro j u hu;rw[iA,bL,bA _ _ _ _ _ _ (cO w _),<-hu];simp
theorem Oy (m:Mk):∀u∈jR m,u.oneCell'=true:=by intro u hu;simp[jR]at hu;rcases hu with rfl|rfl|rfl|rfl<;>rfl
structure ML (W:World) (v:Value) (acc:List Mk) (w:World):Prop where
 aB:Below W.heap.size W w
 own:w.ownsRow W.heap.size 108 4 v acc.length (jl acc)
theorem ML.grown {W:World} {v v':Value} {m:Nat} {acc:List Mk} {x:Mk} {w w':World} {o:Obj} (h:ML W v acc w)
 (ho:w'.ownsRow W.heap.size 108 4 v' m (jl acc++jR x)) (hg:(w.alloc o).grownBy w' v.ownBlock):ML W v' (acc++[x]) w':=by
 have hown:(w.alloc o).ownsRow W.heap.size 108 4 v acc.length (jl acc):=dZ h.own;have hb:Below W.heap.size W (w.alloc o):=h.aB.alloc h.aB.size o;have hm:m=acc.length+1:=by have h1:=ho.1;rw[bG,Ro]at h1;simp only[jR,bK,gQ]at h1;omega
 refine⟨hb.grown hg hb.size (λk hk=>(bB hown hk).1),?_⟩;rw[Rm,bG,<-show m=acc.length+[x].length from hm];have:jl [x]=jR x:=by simp[jl]
 rw[this];exact ho
def VW (t:List UInt8) (W:World) (e:Ending) (w':World):Prop:=∃v,e= .returned v/\w'.ownsRow W.heap.size 108 4 v (BG t).length (jl (BG t))/\Below W.heap.size W w'
theorem anZ {m e n:Nat} (h1:m<=e) (h2:e<=n) (h3:n<=100000):m+1<=maxLen/\(m+1)*24<=0x800000000000:=⟨by simp only[maxLen];omega,by omega⟩
theorem Oz (t:List UInt8) (W:World) (hn:t.length<=100000):Calls Tryz.prog 63 #[.string ⟨t.toArray⟩] W (VW t W):=by
 obtain⟨s,hs⟩:∃s:ByteArray,(⟨t.toArray⟩:ByteArray)=s:=⟨_,rfl⟩
 have hss:s.size=t.length:=size_mk t s hs;rw[hs];have HS:=ah hs;have lI:=ah hss;clear hs hss;obtain⟨i0,hI0,hz0,hz1,hz2⟩:=eD VU;go_enter Tryz.func63,Tryz.ntmps63;go_wp2;go_loopw [3,4] (λvl vi wr=>∃(e n m c:Nat) (A:Option Addr) (acc:List Mk),vi= .int .i64 e/\vl= .slice A m c/\acc.length=m/\ML W (.slice A m c) acc wr/\e<=t.length/\t.length<n+e+1/\m<=e/\acc++mk4 t n e=BG t) (λ_ vi _=>t.length-(RowKit.intOf vi).toNat);case atStart=>exact⟨0,t.length,0,0,none,[],rfl,rfl,rfl,⟨aF _ _,⟨rfl, .inl ⟨rfl,rfl⟩⟩⟩,aH _,by omega,ay _,rfl⟩
 case round=>
  obtain⟨e,n,m,c,A,acc,rfl,rfl,hm,hML,he,hne,hme,hl⟩:=hrel;have HM:=ah hML;clear hML;have hss:=lI.out;by_cases hlt:e<s.size
  ·have hlt2:e<t.length:=by omega
   obtain⟨n',rfl⟩:∃n',n=n'+1:=⟨n-1,by omega⟩
   have hne2:t.drop e≠[]:=by intro c;rw[jy]at c;omega
   have hd1:=bf (t.drop e);have hd2:=bW (t.drop e) hne2;rw[bZ]at hd2;unfold mk4 at hl;rw[ak hlt2]at hl;have HDE:=ah (λw=>Rl (t.drop e) hne2 (by rw[bZ];omega) w);obtain⟨r,hr⟩:∃r,(dec (t.drop e)).1=r:=⟨_,rfl⟩
   obtain⟨wd,hwd⟩:∃wd,(dec (t.drop e)).2=wd:=⟨_,rfl⟩
   rw[hr,hwd]at HDE hl;rw[hwd]at hd1 hd2;obtain⟨ew,Db⟩:∃ew,e+wd=ew:=⟨_,rfl⟩
   rw[Db]at hl;have hx1:=Da t e s HS.out;have hi0:(0:Int)<=e:=xQ e;have hi1:(e:Int)<=s.size:=Int.ofNat_le.2 (dD hlt);have hsa:∀W,(Instr.slice 9 (.string s) (some (.int .i64 (e:Int))) none none).run Tryz.prog W= .ok (.string ⟨(t.drop e).toArray⟩) W:=λW=>by rw[run_slice_string_from_if _ _ _ _ _ Tryz.underlying9,ak ⟨hi0,hi1⟩,jV,hx1]
   have HLEN:=ah (anZ hme he hn);obtain⟨bd,hbd⟩:∃bd,(((wd:Nat):Int)==1&&((r:Nat):Int)==65533)=bd:=⟨_,rfl⟩
   rw[hbd]at hl;obtain⟨m1,hm1⟩:∃m1,m+1=m1:=⟨_,rfl⟩
   have KEY:=ah (λ(A':Option Addr) (c':Nat) (w':World) (h:ML W (.slice A' m1 c') (acc++[(e,wd,r,bd)]) w')=>
    show(∃(e n m c:Nat) (A:Option Addr) (acc:List Mk),Value.int .i64 (ew:Int)= .int .i64 e/\Value.slice A' m1 c'= .slice A m c/\acc.length=m/\ML W (.slice A m c) acc w'/\e<=t.length/\t.length<n+e+1/\m<=e/\acc++mk4 t n e=BG t)/\t.length-(RowKit.intOf (.int .i64 (ew:Int))).toNat<t.length-(RowKit.intOf (.int .i64 (e:Int))).toNat from by refine⟨⟨ew,n',m1,c',A',acc++[(e,wd,r,bd)],rfl,rfl,by rw[List.length_append,hm,<-hm1];rfl,h,by omega,by omega,by omega,?_⟩,by simp[RowKit.intOf];omega⟩;rw[<-hl,dR];rfl)
   have HEW:=ah (show(e:Int)+(wd:Int)=(ew:Int)by omega);have HBD:=ah hbd;have HMA:=ah hm;have HOWN:=ah (show wr.ownsRow W.heap.size 108 4 (.slice A m c) m (jl acc)by have:=HM.out.own;rwa [hm]at this);have hwz:wd<=4:=by rw[<-hwd];exact Folds.Le _
   have HWZ:=ah (And.intro hwz hd1);clear hr hwd hbd hl hm hne hme hd1 hd2 hx1 hi0 hi1 hne2 Db hwz;by_cases c1:wd=1
   ·subst c1;go_wp2_with (first
     |(go_at_call 107;refine(HDE.out _).mono ?_;rintro x wz ⟨rfl,rfl⟩)
     |(at_builtin;(refine qW _ rfl (.tmp 18) (.tmp 29) 105 rfl W.heap.size 108 i0 _ 4 24 Tryz.underlying105 hI0 hz0 hz1 hz2 rfl (by decide) (.slice A m c) m (jl acc) rfl (dZ HOWN.out) ⟨_,0,none⟩ 1 1 (jR (e,1,r,((r:Nat):Int)==65533)) rfl rfl (Ox _ _ _) (Oy _) (by decide) HLEN.out.1 HLEN.out.2 (jG HM.out.aB.size) _ rfl ?_);intro g cap wq ho hg hl hs))
    rw[show(e:Int)+1=(ew:Int)from HEW.out];have hb:(((r:Nat):Int)==65533)=bd:=HBD.out;rw[hb]at ho;exact KEY.out _ _ _ (by rw[<-hm1];exact ML.grown HM.out ho hg)
   ·have c2:(((wd:Nat):Int)==1)=false:=by rw[dB];omega
    have hb:bd=false:=by rw[<-HBD.out,c2];rfl
    go_wp2_with (first
     |(go_at_call 107;refine(HDE.out _).mono ?_;rintro x wz ⟨rfl,rfl⟩)
     |(at_builtin;(refine qW _ rfl (.tmp 18) (.tmp 29) 105 rfl W.heap.size 108 i0 _ 4 24 Tryz.underlying105 hI0 hz0 hz1 hz2 rfl (by decide) (.slice A m c) m (jl acc) rfl (dZ HOWN.out) ⟨_,0,none⟩ 1 1 (jR (e,wd,r,false)) rfl rfl (Ox _ _ _) (Oy _) (by decide) HLEN.out.1 HLEN.out.2 (jG HM.out.aB.size) _ rfl ?_);intro g cap wq ho hg hl hs))
    rw[HEW.out,show wrap64 (ew:Int)=(ew:Int)by have:=HEW.out;have:=HWZ.out;have:=lI.out;unfold wrap64;omega];rw[hb]at KEY;exact KEY.out _ _ _ (by rw[<-hm1];exact ML.grown HM.out ho hg)
  ·have hee:e=t.length:=by omega
   have hz:mk4 t n e=[]:=by
    subst hee;cases n with
    |zero=>rfl
    |succ n'=>show(if t.length<t.length then _ else _)=_;rw[aj (dI _)]
   rw[hz,fq]at hl;have HL:=ah hl;have HMA:=ah hm;clear hl hz hm hme hne he hee;go_wp2;go_ret;refine⟨_,rfl,?_,HM.out.aB⟩;rw[<-HL.out];exact HM.out.own
end
section
open Folds (dec bf bW)
def zI (k:Nat) (t:List UInt8) (m:Mk):List UInt8:=if m.2.2.2=true then(t.drop m.1).take m.2.1 else qh (formV m.2.2.1 k)
theorem flat_mk4 (k:Nat) (t:List UInt8):∀n e,(mk4 t n e).flatMap (zI k t)=Folds.out (λr=>qh (formV r k)) n (t.drop e)
 |0,_=>rfl
 |n+1,e=>by
  show(if e<t.length then _ else _:List Mk).flatMap _=(if t.drop e=[]then _ else _)
  by_cases c:e<t.length
  ·have hne:t.drop e≠[]:=by intro d;rw[jy]at d;omega
   rw[ak c,aj hne,List.drop_drop,List.flatMap_cons,flat_mk4 k t n];congr 1;unfold zI Folds.one;dsimp only;by_cases h:(dec (t.drop e)).1=65533/\(dec (t.drop e)).2=1;·rw[ak h,ak (by rw[h.1,h.2];rfl),h.2]
   ·rw[aj h,aj (by
     intro hb;rw[aR,bV,bV]at hb;exact h ⟨by omega,by omega⟩)]
  ·rw[aj c,ak (by rw[jy];omega)];rfl
theorem agu (k:Nat) (t:List UInt8):(BG t).flatMap (zI k t)=wr k t:=by unfold BG wr Folds.wrt;rw[flat_mk4,oO]
theorem TU (t:List UInt8):∀n e,∀m∈mk4 t n e,m.1+m.2.1<=t.length/\1<=m.2.1/\vC (m.2.2.1:Int)=true
 |0,_,m,h=>by cases h
 |n+1,e,m,h=>by
  unfold mk4 at h;by_cases c:e<t.length
  ·rw[ak c]at h;rcases aU.1 h with rfl|h
   ·have hne:t.drop e≠[]:=by intro d;rw[jy]at d;omega
    have:=bW (t.drop e) hne;rw[bZ]at this;exact⟨by dsimp only;omega,bf _,Tq _⟩
   ·exact TU t n _ m h
  ·rw[aj c]at h;cases h
theorem OC (k:Nat) (t:List UInt8) (m:Mk) (h:m.2.1<=4):(zI k t m).length<=12:=by
 unfold zI;split;·rw[eU];omega
 ·exact aS (vW _) (by have:=formV_len m.2.2.1 k;omega)
theorem TV (t:List UInt8):∀n e,∀m∈mk4 t n e,m.2.1<=4
 |0,_,m,h=>by cases h
 |n+1,e,m,h=>by
  unfold mk4 at h;by_cases c:e<t.length
  ·rw[ak c]at h;rcases aU.1 h with rfl|h
   ·exact Folds.Le _
   ·exact TV t n _ m h
  ·rw[aj c]at h;cases h
def VX (k:Nat) (t:List UInt8) (m:Mk):List Int:=List.replicate (zI k t m).length (m.1:Int)
def mk0:Mk:=(0,0,0,false)
theorem take_mk (l:List Mk) {i:Nat} (h:i<l.length):l.take (i+1)=l.take i++[l.getD i mk0]:=by rw[Bg,aM,aX h];rfl
theorem Hw:∀(l:List Mk) (k:Nat),k<l.length->(jl l)[k*4]? =some (.int .i64 (l.getD k mk0).1)/\(jl l)[k*4+1]? =some (.int .i64 (l.getD k mk0).2.1)/\(jl l)[k*4+2]? =some (.int .i32 (l.getD k mk0).2.2.1)/\(jl l)[k*4+3]? =some (.bool (l.getD k mk0).2.2.2)
 |[],k,h=>absurd h (jh _)
 |a::l,0,_=>⟨rfl,rfl,rfl,rfl⟩
 |a::l,k+1,h=>by have:=Hw l k (Nat.lt_of_succ_lt_succ h);rw[show(k+1)*4=k*4+1+1+1+1 by omega];exact this
structure ZT (W w1:World) (v:Value) (ats:List Int) (w:World):Prop where
 aB:Below w1.heap.size w1 w
 own:w.ownsRow w1.heap.size 3 1 v ats.length (bD ats)
theorem ZT.below {W w1 w w':World} {v:Value} {ats:List Int} (h:ZT W w1 v ats w) (hb:Below w.heap.size w w'):ZT W w1 v ats w':=⟨h.aB.trans (hb.mono h.aB.size),own_below hb h.own⟩
theorem ZT.grown {W w1 w w':World} {v v':Value} {ats:List Int} {x:Int} {m:Nat} {o:Obj} (h:ZT W w1 v ats w) (hm:ats.length=m) (ho:w'.ownsRow w1.heap.size 3 1 v' (m+1) (bD ats++[.int .i64 x])) (hg:(w.alloc o).grownBy w' v.ownBlock):ZT W w1 v' (ats++[x]) w':=by have hb:Below w1.heap.size w1 (w.alloc o):=h.aB.alloc h.aB.size o;refine⟨hb.grown hg hb.size (λk hk=>(bB (dZ (o:=o) h.own) hk).1),?_⟩;rw[kZ,bG,hm];exact ho
def Rp (k:Nat) (t:List UInt8) (W:World) (e:Ending) (w':World):Prop:=∃v,e= .returned (.tuple #[.string ⟨(wr k t).toArray⟩,v])/\w'.ownsRow W.heap.size 3 1 v ((BG t).flatMap (VX k t)).length (bD ((BG t).flatMap (VX k t)))/\Below W.heap.size W w'
theorem Rq (a b:List UInt8):(⟨a.toArray⟩:ByteArray)++⟨b.toArray⟩=⟨(a++b).toArray⟩:=by apply ByteArray.ext;simp
theorem at_len (k:Nat) (t:List UInt8) (M:List Mk) (h:∀m∈M,m.2.1<=4):∀i,((M.take i).flatMap (VX k t)).length<=12*i
 |0=>by simp
 |i+1=>by
  rcases aK i M.length with c|c
  ·rw[take_mk M c,xO,bG,qQ];have h1:=at_len k t M h i;have h2:(VX k t (M.getD i mk0)).length<=12:=by unfold VX;rw[Bf];refine OC k t _ (h _ ?_);rw[aM,aX c];exact l6 _
   omega
  ·rw[nC (by omega)];have h1:=at_len k t M h i;rw[nC c]at h1;omega
theorem agw (k:Nat) (t:List UInt8) (M:List Mk):(M.flatMap (zI k t)).length=(M.flatMap (VX k t)).length:=by simp[List.length_flatMap,VX]
theorem VY (t:List UInt8) (k:Nat) (hk:k<4) (hk0:k≠0) (v:Value) (W:World) (h:DU W v) (hn:t.length<=10000):Calls Tryz.prog 121 #[v, .string ⟨t.toArray⟩, .int .i64 k] W (Rp k t W):=by
 obtain⟨B,o,rfl⟩:∃B o,v= .pointer (some ⟨B,o,none⟩):=by obtain⟨_,B,o,_,_,_,rfl,_⟩:=h;exact⟨B,o,rfl⟩
 have HMK:=ah (Oz t W (by omega));obtain⟨s,hs⟩:∃s:ByteArray,(⟨t.toArray⟩:ByteArray)=s:=⟨_,rfl⟩
 have hss:s.size=t.length:=size_mk t s hs;rw[hs]at HMK⊢;have HS:=ah hs;have lI:=ah hss;have HB:=ah h;have HK:=ah hk;have HN:=ah hn;have hkz:((k:Int)==0)=false:=by rw[dB];omega
 obtain⟨M,hM⟩:∃M,BG t=M:=⟨_,rfl⟩
 have WS:=ah (show M.length<=10000 by rw[<-hM];exact aS (TT t t.length 0) hn);have HMM:=ah (show ∀m∈M,m.1+m.2.1<=t.length/\1<=m.2.1/\vC (m.2.2.1:Int)=true by rw[<-hM];exact TU t t.length 0);have HMW:=ah (show ∀m∈M,m.2.1<=4 by rw[<-hM];exact TV t t.length 0);have HWR:=ah (show M.flatMap (zI k t)=wr k t by rw[<-hM];exact agu k t);have HMQ:=ah hM;clear hs hss h hk hn hM hk0;obtain⟨i0,hI0,hz0,hz1,hz2⟩:=eD gK;go_enter Tryz.func121,Tryz.ntmps121;go_wp2_with (go_at_call 63;refine HMK.out.mono ?_;rintro e w1 ⟨vm,rfl,hown,hb⟩;rw[HMQ.out]at hown;obtain⟨Am,cm,rfl,_⟩:=aL hown;have HOM:=ah hown;have HB1:=ah hb;clear hown hb);obtain⟨N,hN⟩:∃N,M.length=N:=⟨_,rfl⟩
 rw[hN]at HOM WS⊢;have HNN:=ah hN;clear hN;go_loopw [9,10,11] (λvo va vi wr=>∃(i m c:Nat) (A:Option Addr),i<=N/\vi= .int .i64 i/\vo= .string ⟨((M.take i).flatMap (zI k t)).toArray⟩/\va= .slice A m c/\m=((M.take i).flatMap (VX k t)).length/\ZT W w1 (.slice A m c) ((M.take i).flatMap (VX k t)) wr) (λ_ _ vi _=>N-(RowKit.intOf vi).toNat);case atStart=>exact⟨0,0,0,none,aH _,rfl,rfl,rfl,rfl,aF _ _,⟨rfl, .inl ⟨rfl,rfl⟩⟩⟩
 case round=>
  obtain⟨i,m,c,A,hi,rfl,rfl,rfl,hm,hbw⟩:=hrel;have HW:=ah hbw;have HM:=ah hm;clear hbw hm;by_cases hlt:i<N
  ·obtain⟨g,rfl⟩:=sO HOM.out (by omega);have hg1:=(bB HOM.out (g:=g) rfl).2.1;have hc:=qX (g:=g) HOM.out rfl;have hget:=Hw M i (by rw[HNN.out];exact hlt);obtain⟨x,hx⟩:∃x,M.getD i mk0=x:=⟨_,rfl⟩
   rw[hx]at hget;have hxm:x∈M:=by rw[<-hx,aM,aX (by rw[HNN.out];exact hlt)];exact l6 _
   have HX1:=HMM.out x hxm;have HX2:=HMW.out x hxm;have Er:=ah (take_mk M (i:=i) (by rw[HNN.out];exact hlt));rw[hx]at Er;obtain⟨g0,g1,g2,g3⟩:=hget;have c0:=hc _ _ g0;have c1:=hc _ _ g1;have c2:=hc _ _ g2;have c3:=hc _ _ g3;rw[iA,bL]at c0 c1 c2 c3;clear hc g0 g1 g2 g3 hx hxm;have key:∀w,Below w1.heap.size w1 w->w.cell? ⟨g,i*4,none⟩=some (.int .i64 x.1)/\w.cell? ⟨g,i*4+1,none⟩=some (.int .i64 x.2.1)/\w.cell? ⟨g,i*4+2,none⟩=some (.int .i32 x.2.2.1)/\w.cell? ⟨g,i*4+3,none⟩=some (.bool x.2.2.2):=λw hb=>⟨by rw[hb.cell (p:=⟨g,i*4,none⟩) hg1];exact c0,by rw[hb.cell (p:=⟨g,i*4+1,none⟩) hg1];exact c1,by rw[hb.cell (p:=⟨g,i*4+2,none⟩) hg1];exact c2,by rw[hb.cell (p:=⟨g,i*4+3,none⟩) hg1];exact c3⟩
   have KC:=ah key;clear key c0 c1 c2 c3 hg1;obtain⟨a,wd,r,bd⟩:=x;dsimp only at HX1 HX2 KC;obtain⟨hx1,hx2,hx3⟩:=HX1;obtain⟨d0,d1,d2,d3⟩:=KC.out wr HW.out.aB;have ha0:(0:Int)<=a:=xQ a;have ha1:(a:Int)<=(a:Int)+wd:=by omega
   have ha2:(a:Int)+wd<=s.size:=by have:=lI.out;omega
   have hsl:∀W,(Instr.slice 9 (.string s) (some (.int .i64 (a:Int))) (some (.int .i64 (wrap64 ((a:Int)+(wd:Int))))) none).run Tryz.prog W= .ok (.string ⟨((t.drop a).take wd).toArray⟩) W:=λW=>by rw[show wrap64 ((a:Int)+(wd:Int))=(a:Int)+wd by have:=HN.out;unfold wrap64;omega,run_slice_string _ _ _ _ _ _ _ Tryz.underlying9 ha0 ha1 ha2,jV,show((a:Int)+(wd:Int)).toNat=a+wd by omega,<-HS.out,oZ,pJ]
   have HX3:=ah hx3;clear hx3;obtain⟨X,hX⟩:∃X,zI k t (a,wd,r,bd)=X:=⟨_,rfl⟩
   have hxl:X.length<=12:=by rw[<-hX];exact OC k t _ HX2
   have HAX:=ah (show VX k t (a,wd,r,bd)=List.replicate X.length (a:Int)by unfold VX;rw[hX]);obtain⟨ol,hol⟩:∃ol,(M.take i).flatMap (zI k t)=ol:=⟨_,rfl⟩
   obtain⟨al,hal⟩:∃al,(M.take i).flatMap (VX k t)=al:=⟨_,rfl⟩
   have HOL:=ah (show(M.take (i+1)).flatMap (zI k t)=ol++X by rw[Er.out,xO,hol,qQ,hX]);have yM:=ah (show(M.take (i+1)).flatMap (VX k t)=al++List.replicate X.length (a:Int)by rw[Er.out,xO,hal,qQ,HAX.out]);have an2:ol.length=al.length:=by rw[<-hol,<-hal];exact agw k t _
   have ajI:al.length<=12*i:=by rw[<-hal];exact at_len k t M HMW.out i
   rw[hol];rw[hal]at HM HW;clear hol hal;obtain⟨XB,hXB⟩:∃XB:ByteArray,(⟨X.toArray⟩:ByteArray)=XB:=⟨_,rfl⟩
   have hxs:XB.size=X.length:=size_mk X XB hXB;obtain⟨XN,hXN⟩:∃XN,X.length=XN:=⟨_,rfl⟩
   rw[hXN]at hxs hxl yM;have happ:(⟨ol.toArray⟩:ByteArray)++XB=⟨((M.take (i+1)).flatMap (zI k t)).toArray⟩:=by rw[HOL.out,<-hXB,Rq]
   have HXS:=ah hxs;have agx:=ah happ;have HIN:=ah (show al.length+XN<=1000000 by have:=WS.out;omega);obtain⟨i1,hi1⟩:∃i1,i+1=i1:=⟨_,rfl⟩
   have HI1:=ah hi1;rw[hi1]at yM agx;have hov:¬0x7fffffffffffffff<ol.length+XB.size:=by have:=HIN.out;omega
   clear hxs happ hi1 ajI hxl hXN an2;cases bd;case true=>
    have Qp:(⟨((t.drop a).take wd).toArray⟩:ByteArray)=XB:=by rw[<-hXB,<-hX];unfold zI;rw[ak rfl]
    have HXX:=ah Qp;rw[Qp]at hsl;clear Qp hX hXB;go_wp2_with fail;go_quiet (fail);go_wp2_with fail;rw[agx.out];have HWQ:=ah (show ZT W w1 (.slice A m c) al (wr.drewN nq)from⟨⟨HW.out.aB.os,HW.out.aB.tape,HW.out.aB.output,HW.out.aB.size,HW.out.aB.block⟩,HW.out.own⟩);clear d0 d1 d2 d3 hsl;go_loopw [14,10] (λvn va wq=>∃(j m' c':Nat) (A':Option Addr),j<=XN/\vn= .int .i64 j/\va= .slice A' m' c'/\(al++List.replicate j (a:Int)).length=m'/\ZT W w1 (.slice A' m' c') (al++List.replicate j (a:Int)) wq) (λvn _ _=>XN-(RowKit.intOf vn).toNat);case atStart=>exact⟨0,m,c,A,aH _,rfl,rfl,by rw[List.replicate_zero,fq];exact HM.out.symm,by rw[List.replicate_zero,fq];exact HWQ.out⟩
    case round=>
     obtain⟨j,m',c',A',hj,rfl,rfl,hjm,hjw⟩:=hrel;have HJ:=ah hjw;have HJM:=ah hjm;have HOJ:=ah (show wr.ownsRow w1.heap.size 3 1 (.slice A' m' c') m' (bD (al++List.replicate j (a:Int)))by have:=hjw.own;rwa [hjm]at this);have HLJ:=ah (show m'+1<=maxLen/\(m'+1)*8<=0x800000000000 by rw[bG,Bf]at hjm;have:=HIN.out;exact⟨by simp only[maxLen];omega,by omega⟩);obtain⟨d0,d1,d2,d3⟩:=KC.out wr hjw.aB;clear hjw hjm;have hxs:=HXS.out;by_cases hlt2:j<XN
     ·go_wp2_with (at_builtin;refine aY _ rfl (.tmp 72) (.tmp 78) 41 rfl w1.heap.size 3 i0 _ 8 Tryz.underlying41 hI0 hz0 hz1 hz2 rfl (.slice A' m' c') m' (bD (al++List.replicate j (a:Int))) rfl (dZ HOJ.out) _ 1 1 [.int .i64 (a:Int)] rfl (bY _ _ _) (by simp[Value.oneCell']) HLJ.out.1 HLJ.out.2 (by rw[World.size_alloc];have:=HJ.out.aB.size;omega) ?_;intro v' wp ho hg hn;obtain⟨A2,d2,rfl,_⟩:=aL ho;have HJG:=Lib.hid (HJ.out.grown HJM.out ho hg);clear ho hg hn);go_roundw;case rel=>exact⟨j+1,m'+1,d2,A2,hlt2,by go_num,rfl,by rw[List.replicate_succ',<-dR,bG,HJM.out];rfl,by rw[List.replicate_succ',<-dR];exact HJG.out⟩
      case measure=>simp[RowKit.intOf];omega
     ·obtain rfl:j=XN:=by omega
      go_wp2_with fail;rw[show wrap64 ((i:Int)+1)=(i1:Int)by have:=HI1.out;have:=WS.out;unfold wrap64;omega];have hi1:=HI1.out;exact⟨⟨i1,m',c',A',by omega,rfl,rfl,rfl,by rw[yM.out];exact HJM.out.symm,by rw[yM.out];exact HJ.out⟩,by simp[RowKit.intOf];omega⟩
   case false=>
    have Qp:(⟨(qh (formV r k)).toArray⟩:ByteArray)=XB:=by rw[<-hXB,<-hX];unfold zI;rw[aj vU]
    have HXX:=ah Qp;clear Qp hX hXB;go_wp2_with fail;go_quiet (fail);have HWQ:=ah (show ZT W w1 (.slice A m c) al (wr.drewN nq)from⟨⟨HW.out.aB.os,HW.out.aB.tape,HW.out.aB.output,HW.out.aB.size,HW.out.aB.block⟩,HW.out.own⟩);have hri:=(kH _).1 HX3.out;have HRI:=ah (show-2147483648<=(r:Int)/\(r:Int)<=2147483647 by omega);clear hri;go_wp2_with (first
     |(go_at_call 67;refine(form2_ok r HRI.out k HK.out _ _ (D7 HB.out (HB1.out.trans (HWQ.out.aB.mono HB1.out.size)))).mono ?_;rintro e w5 ⟨sf,rfl,hsf,hb⟩;have HSF:=ah hsf;have HW5:=ah (HWQ.out.below hb);clear hb hsf)
     |(go_at_call 66;refine(ZM (formV r k) _ _ HSF.out (aS (formV_len r k) (by decide)) (form_facts r HX3.out k HK.out).2.1).mono ?_;rintro e w6 ⟨rfl,hb⟩;rw[HXX.out];have HW6:=ah (HW5.out.below hb);clear hb))
    rw[agx.out];clear d0 d1 d2 d3 hsl;go_loopw [14,10] (λvn va wq=>∃(j m' c':Nat) (A':Option Addr),j<=XN/\vn= .int .i64 j/\va= .slice A' m' c'/\(al++List.replicate j (a:Int)).length=m'/\ZT W w1 (.slice A' m' c') (al++List.replicate j (a:Int)) wq) (λvn _ _=>XN-(RowKit.intOf vn).toNat);case atStart=>exact⟨0,m,c,A,aH _,rfl,rfl,by rw[List.replicate_zero,fq];exact HM.out.symm,by rw[List.replicate_zero,fq];exact HW6.out⟩
    case round=>
     obtain⟨j,m',c',A',hj,rfl,rfl,hjm,hjw⟩:=hrel;have HJ:=ah hjw;have HJM:=ah hjm;have HOJ:=ah (show wr.ownsRow w1.heap.size 3 1 (.slice A' m' c') m' (bD (al++List.replicate j (a:Int)))by have:=hjw.own;rwa [hjm]at this);have HLJ:=ah (show m'+1<=maxLen/\(m'+1)*8<=0x800000000000 by rw[bG,Bf]at hjm;have:=HIN.out;exact⟨by simp only[maxLen];omega,by omega⟩);obtain⟨d0,d1,d2,d3⟩:=KC.out wr hjw.aB;clear hjw hjm;have hxs:=HXS.out;by_cases hlt2:j<XN
     ·go_wp2_with (at_builtin;refine aY _ rfl (.tmp 72) (.tmp 78) 41 rfl w1.heap.size 3 i0 _ 8 Tryz.underlying41 hI0 hz0 hz1 hz2 rfl (.slice A' m' c') m' (bD (al++List.replicate j (a:Int))) rfl (dZ HOJ.out) _ 1 1 [.int .i64 (a:Int)] rfl (bY _ _ _) (by simp[Value.oneCell']) HLJ.out.1 HLJ.out.2 (by rw[World.size_alloc];have:=HJ.out.aB.size;omega) ?_;intro v' wp ho hg hn;obtain⟨A2,d2,rfl,_⟩:=aL ho;have HJG:=Lib.hid (HJ.out.grown HJM.out ho hg);clear ho hg hn);go_roundw;case rel=>exact⟨j+1,m'+1,d2,A2,hlt2,by go_num,rfl,by rw[List.replicate_succ',<-dR,bG,HJM.out];rfl,by rw[List.replicate_succ',<-dR];exact HJG.out⟩
      case measure=>simp[RowKit.intOf];omega
     ·obtain rfl:j=XN:=by omega
      go_wp2_with fail;rw[show wrap64 ((i:Int)+1)=(i1:Int)by have:=HI1.out;have:=WS.out;unfold wrap64;omega];have hi1:=HI1.out;exact⟨⟨i1,m',c',A',by omega,rfl,rfl,rfl,by rw[yM.out];exact HJM.out.symm,by rw[yM.out];exact HJ.out⟩,by simp[RowKit.intOf];omega⟩
  ·obtain rfl:i=N:=by omega
   have htk:M.take i=M:=nC (by rw[HNN.out];exact ay _);rw[htk]at HM HW;rw[htk,HWR.out];clear htk;go_wp2_with fail;go_ret2;refine⟨_,rfl,?_,HB1.out.trans (HW.out.aB.mono HB1.out.size)⟩;rw[HMQ.out];have:=HW.out.own;exact sK this (λg hg=>aS HB1.out.size (bB this hg).1)
end
theorem ZU (t:List UInt8) (v:Value) (W:World) (h:DU W v) (hn:t.length<=10000):Calls Tryz.prog 73 #[v, .string ⟨t.toArray⟩] W (Zf 3 t W):=by have HW:=ah (VY t 3 (by decide) (by decide) v W h hn);go_enter Tryz.func73,Tryz.ntmps73;go_wp2_with (go_at_call 121;refine HW.out.mono ?_;rintro e w1 ⟨va,rfl,hown,hb⟩;have HB:=ah hb;clear hb hown);go_ret;exact⟨rfl,HB.out⟩
