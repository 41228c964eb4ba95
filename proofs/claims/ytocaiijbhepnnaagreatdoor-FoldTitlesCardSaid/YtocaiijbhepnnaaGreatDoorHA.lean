/- FoldTitles, walked: the document's letters, its Write. -/
import Derived.Test.YtocaiijbhepnnaaGreatDoorFC
set_option maxRecDepth 100000
set_option maxHeartbeats 8000000
namespace Go.Proofs.YtocaiijbhepnnaaGreatDoor.foldTitles
open Go.Shelf Go.RowKit Go.Lib Go.Proofs.YtocaiijbhepnnaaGreatDoor.Am
theorem Nv (r:Int) {k:Nat} (hk:k<17) (he:Cases.bf.getD k 0=r):Cases.bf.contains r=true:=by rw[rM,<-he,aG,aS (show k<Cases.bf.length from hk)];exact iN _
theorem GA (r:Int) (h:∀j,j<17->Cases.bf.getD j 0≠r):Cases.bf.contains r=false:=by rw[rO];intro c;rw[rM]at c;obtain⟨j,hj,he⟩:=mD.1 c;exact h j hj (by rw[aG,aS hj];exact he)
def Vy (r:Int) (w:World) (e:Ending) (w':World):Prop:=(∃p n c,e= .returned (.slice p n c)/\p.isSome=Cases.bf.contains r)/\w'=w
theorem Nw (r:Int) (v:Value) (w:World) (h:xJ w v):Calls Tryz.prog 112 #[v, .int .i32 r] w (Vy r w):=by
 obtain⟨B,o,BP,oP,cP,BS,oS,cS,rfl,c0,c1,l1,l2,hP,hS⟩:=h;have HS:=ah hS;clear hS hP c0;go_enter Tryz.func112,Tryz.ntmps112;go_wp2;go_loop [5] (λi=>∃k:Nat,k<=17/\i= .int .i64 k/\∀j,j<k->Cases.bf.getD j 0≠r) (λi=>17-(RowKit.intOf i).toNat);case atStart=>exact⟨0,by omega,rfl,λj hj=>by omega⟩
 case round=>
  obtain⟨k,hk,rfl,hlo⟩:=hrel;have mY:=ah hlo;clear hlo;by_cases hlt:k<17
  ·obtain⟨d1,p,n,c,d2⟩:=HS.out k hlt;rw[kX 2 k]at d1 d2;by_cases he:Cases.bf.getD k 0=r
   ·have HE:=ah he;rw[he]at d1;clear he;go_wp2;go_ret;exact⟨⟨_,_,_,rfl,by rw[Nv r hlt HE.out];rfl⟩,rfl⟩
   ·obtain⟨x,hx⟩:∃x,Cases.bf.getD k 0=x:=⟨_,rfl⟩
    have HE:=ah he;rw[hx]at d1 he;clear hx;have hd:decide (x=r)=false:=aP he;go_wp2;go_round;case rel=>exact⟨k+1,hlt,by go_num,λj hj=>by
     rcases aF j k with c|c;·exact mY.out j c
     ·obtain rfl:j=k:=by omega
      exact HE.out⟩
    case measure=>simp[RowKit.intOf];omega
  ·obtain rfl:k=17:=by omega
   go_wp2;go_ret;exact⟨⟨_,_,_,rfl,by rw[GA r mY.out];rfl⟩,rfl⟩
def ln (k:Nat):Cases.Line:=Cases.lines.getD k (0,0,0,1)
def aeV (p:Cases.Line):Bool:=decide (0<=p.1)&&decide (p.1<=p.2.1)&&decide (p.2.1<=70000)&&decide (-1000<=p.2.2.1)&&decide (p.2.2.1<=1000)&&decide (0<=p.1+p.2.2.1)&&decide (1<=p.2.2.2)&&decide (p.2.2.2<=2)
theorem Ny:((List.range 23).all λk=>aeV (ln k)&&decide (qA.getD (4*k) 0=(ln k).1)&&decide (qA.getD (4*k+1) 0=(ln k).2.1)&&decide (qA.getD (4*k+2) 0=(ln k).2.2.1)&&decide (qA.getD (4*k+3) 0=(ln k).2.2.2))=true:=by decide+kernel
def acc (r:Int) (k:Nat):Int×Int:=(Cases.lines.take k).foldl (Cases.step r) (r,r)
theorem Vz (r:Int) {k:Nat} (hk:k<23):acc r (k+1)=Cases.step r (acc r k) (ln k):=by unfold acc ln;rw[List.take_succ_eq_append_getElem (show k<Cases.lines.length from hk),List.foldl_append,aG,aS (show k<Cases.lines.length from hk)];rfl
theorem step_eq {r a b d s x1 y1 x2 y2 sm gr:Int} (hr: -2147483648<=r/\r<=2147483647) (q:0<=a/\a<=b/\b<=70000∧-1000<=d/\d<=1000/\0<=a+d/\1<=s/\s<=2)
 (hx1:wrap32 (r-a)=x1) (hy1:Int.tmod x1 s=y1) (hx2:wrap32 (x1-d)=x2) (hy2:Int.tmod x2 s=y2):
 (Cases.step r (sm,gr) (a,b,d,s)).1=(if(decide (a<=r)&&decide (r<=b)&&decide (y1=0))=true then wrap32 (r+d)else sm)/\
 (Cases.step r (sm,gr) (a,b,d,s)).2=(if(decide (a+d<=r)&&decide (r<=b+d)&&decide (y2=0))=true then wrap32 (r-d)else gr):=by
 have h1:Cases.mV r (a,b,d,s)=(decide (a<=r)&&decide (r<=b)&&decide (y1=0)):=by
  unfold Cases.mV;dsimp only;by_cases c:a<=r/\r<=b
  ·have e:wrap32 (r-a)=r-a:=by unfold wrap32;omega
   rw[<-hy1,<-hx1,e]
  ·rw[<-hy1];by_cases c1:a<=r
   ·rw[aP (show ¬r<=b from λh=>c ⟨c1,h⟩)];simp
   ·rw[aP c1];simp
 have h2:Cases.isSmall r (a,b,d,s)=(decide (a+d<=r)&&decide (r<=b+d)&&decide (y2=0)):=by
  unfold Cases.isSmall;dsimp only;by_cases c:a+d<=r/\r<=b+d
  ·have e:wrap32 (r-a)=r-a:=by unfold wrap32;omega
   have e2:wrap32 (r-a-d)=r-a-d:=by unfold wrap32;omega
   rw[<-hy2,<-hx2,<-hx1,e,e2]
  ·by_cases c1:a+d<=r
   ·rw[aP (show ¬r<=b+d from λh=>c ⟨c1,h⟩)];simp
   ·rw[aP c1];simp
 unfold Cases.step;rw[<-h1,<-h2];dsimp only;constructor
 ·cases c:Cases.mV r (a,b,d,s)with
  |false=>rfl
  |true=>rw[au rfl,au rfl];unfold Cases.mV at c;simp only[aQ,aY]at c;unfold wrap32;omega
 ·cases c:Cases.isSmall r (a,b,d,s)with
  |false=>rfl
  |true=>rw[au rfl,au rfl];unfold Cases.isSmall at c;simp only[aQ,aY]at c;unfold wrap32;omega
def Rs (r:Int) (W:World) (e:Ending) (w':World):Prop:=e= .returned (.tuple #[.int .i32 (Cases.gB r).1, .int .i32 (Cases.gB r).2])/\Below W.heap.size W w'
theorem K8 (r:Int) (hr: -2147483648<=r/\r<=2147483647) (v:Value) (W:World) (h:xJ W v):Calls Tryz.prog 111 #[v, .int .i32 r] W (Rs r W):=by
 obtain⟨B,o,BP,oP,cP,BS,oS,cS,rfl,c0,c1,l1,l2,hP,hS⟩:=h;have hB:=aW c0;have hBP:=aW (hP 0 (by omega));have HP:=ah hP;have HR:=ah hr;have HB:=ah hB;have HBP:=ah hBP;have C0:=ah c0;clear hP hS c1 hr hB hBP;go_enter Tryz.func111,Tryz.ntmps111;go_wp2;go_loopw [6,7,8] (λsm gr i wr=>∃k:Nat,k<=23/\i= .int .i64 k/\sm= .int .i32 (acc r k).1/\gr= .int .i32 (acc r k).2/\Below W.heap.size W wr) (λ_ _ i _=>23-(RowKit.intOf i).toNat);case atStart=>exact⟨0,by omega,rfl,rfl,rfl,aK _ _⟩
 case round=>
  obtain⟨k,hk,rfl,rfl,rfl,hbel⟩:=hrel;have d0:wr.cell? ⟨B,o,none⟩=some (.slice (some ⟨BP,oP,none⟩) 23 cP):=by rw[hbel.cell HB.out];exact C0.out
  have xU:=ah hbel;clear hbel c0;by_cases hlt:k<23
  ·have hall:=dZ.1 Ny k (nO.2 hlt);simp only[aQ,aY,aeV]at hall;obtain⟨⟨⟨⟨⟨⟨⟨⟨⟨⟨⟨q1,q2⟩,q3⟩,q4⟩,q5⟩,q6⟩,q7⟩,q8⟩,e0⟩,e1⟩,e2⟩,e3⟩:=hall;have f0:=HP.out (4*k) (by omega);have f1:=HP.out (4*k+1) (by omega);have f2:=HP.out (4*k+2) (by omega);have f3:=HP.out (4*k+3) (by omega);rw[e0]at f0;rw[e1]at f1;rw[e2]at f2;rw[e3]at f3;rw[kX 4 k]at f0 f1 f2 f3;have g0:wr.cell? ⟨BP,oP+k*4,none⟩=some (.int .i32 (ln k).1):=by rw[xU.out.cell HBP.out];exact f0
   have g1:wr.cell? ⟨BP,oP+k*4+1,none⟩=some (.int .i32 (ln k).2.1):=by rw[xU.out.cell HBP.out];exact f1
   have g2:wr.cell? ⟨BP,oP+k*4+2,none⟩=some (.int .i32 (ln k).2.2.1):=by rw[xU.out.cell HBP.out];exact f2
   have g3:wr.cell? ⟨BP,oP+k*4+3,none⟩=some (.int .i32 (ln k).2.2.2):=by rw[xU.out.cell HBP.out];exact f3
   have HA:=ah (Vz r hlt);clear e0 e1 e2 e3 f0 f1 f2 f3;obtain⟨p,hp⟩:∃p,ln k=p:=⟨_,rfl⟩
   rw[hp]at q1 q2 q3 q4 q5 q6 q7 q8 g0 g1 g2 g3 HA;clear hp;obtain⟨a,b,d,s⟩:=p;dsimp only at q1 q2 q3 q4 q5 q6 q7 q8 g0 g1 g2 g3;obtain⟨sg,hsg⟩:∃sg,acc r k=sg:=⟨_,rfl⟩
   rw[hsg]at HA;rw[hsg];clear hsg;obtain⟨sm,gr⟩:=sg;dsimp only;have hs:s≠0:=by omega
   obtain⟨x1,hx1⟩:∃x,wrap32 (r-a)=x:=⟨_,rfl⟩
   obtain⟨y1,hy1⟩:∃y,Int.tmod x1 s=y:=⟨_,rfl⟩
   have w1:wrap32 (a+d)=a+d:=by unfold wrap32;omega
   have w2:wrap32 (b+d)=b+d:=by unfold wrap32;omega
   obtain⟨x2,hx2⟩:∃x,wrap32 (x1-d)=x:=⟨_,rfl⟩
   obtain⟨y2,hy2⟩:∃y,Int.tmod x2 s=y:=⟨_,rfl⟩
   obtain⟨t1,ht1⟩:∃t,decide (a<=r)=t:=⟨_,rfl⟩
   obtain⟨t2,ht2⟩:∃t,decide (r<=b)=t:=⟨_,rfl⟩
   obtain⟨t3,ht3⟩:∃t,decide (y1=0)=t:=⟨_,rfl⟩
   obtain⟨t4,ht4⟩:∃t,decide (a+d<=r)=t:=⟨_,rfl⟩
   obtain⟨t5,ht5⟩:∃t,decide (r<=b+d)=t:=⟨_,rfl⟩
   obtain⟨t6,ht6⟩:∃t,decide (y2=0)=t:=⟨_,rfl⟩
   obtain⟨s1,s2⟩:=step_eq (sm:=sm) (gr:=gr) HR.out ⟨q1,q2,q3,q4,q5,q6,q7,q8⟩ hx1 hy1 hx2 hy2;rw[ht1,ht2,ht3]at s1;rw[ht4,ht5,ht6]at s2;have S1:=ah s1;have S2:=ah s2;clear s1 s2;clear q1 q2 q3 q4 q5 q6 q7 q8;have T1:t1=false\/(t1=true/\t2=false)\/(t1=true/\t2=true/\t3=false)\/(t1=true/\t2=true/\t3=true):=by cases t1<;>cases t2<;>cases t3<;>simp
   have T2:t4=false\/(t4=true/\t5=false)\/(t4=true/\t5=true/\t6=false)\/(t4=true/\t5=true/\t6=true):=by cases t4<;>cases t5<;>cases t6<;>simp
   rcases T1 with rfl|⟨rfl,rfl⟩|⟨rfl,rfl,rfl⟩|⟨rfl,rfl,rfl⟩<;>rcases T2 with rfl|⟨rfl,rfl⟩|⟨rfl,rfl,rfl⟩|⟨rfl,rfl,rfl⟩
   all_goals
    try have n3:=of_decide_eq_false ht3
    try have n6:=of_decide_eq_false ht6
    try have m3:=gK ht3
    try have m6:=gK ht6
    go_wp2;refine⟨⟨k+1,hlt,by go_num,?_,?_,xU.out.alloc xU.out.size _⟩,by simp[RowKit.intOf];omega⟩;·rw[HA.out,S1.out];rfl
    ·rw[HA.out,S2.out];rfl
  ·obtain rfl:k=23:=by omega
   go_wp2;go_ret2;exact⟨rfl,xU.out⟩
theorem zh {w w':World} {v:Value} (h:xJ w v) (hb:Below w.heap.size w w'):xJ w' v:=by obtain⟨B,o,BP,oP,cP,BS,oS,cS,rfl,c0,c1,l1,l2,hP,hS⟩:=h;have hB:=aW c0;have hBP:=aW (hP 0 (by omega));have hBS:=aW (hS 0 (by omega)).1;refine⟨B,o,BP,oP,cP,BS,oS,cS,rfl,by rw[hb.cell hB];exact c0,by rw[hb.cell hB];exact c1,l1,l2,λi hi=>by rw[hb.cell hBP];exact hP i hi,λj hj=>⟨by rw[hb.cell hBS];exact(hS j hj).1,?_⟩⟩;obtain⟨p,n,c,h⟩:=(hS j hj).2;exact⟨p,n,c,by rw[hb.cell hBS];exact h⟩
theorem K9 (r x y:Int) (hx:(Cases.gB r).1=x) (hy:(Cases.gB r).2=y):Cases.ug r=(decide (x≠r)||decide (y≠r)||Cases.bf.contains r):=by unfold Cases.ug;rw[hx,hy]
theorem Jg (p:Option Addr) (n c:Nat) (w:World):(binOp .neq 102 (.slice p n c) (.slice none 0 0)).run Tryz.prog w= .ok (.bool p.isSome) w:=by cases p<;>rfl
def Nz (r:Int) (W:World) (e:Ending) (w':World):Prop:=e= .returned (.bool (Cases.ug r))/\Below W.heap.size W w'
theorem Ru (r:Int) (hr: -2147483648<=r/\r<=2147483647) (v:Value) (W:World) (h:xJ W v):Calls Tryz.prog 65 #[v, .int .i32 r] W (Nz r W):=by
 obtain⟨B,o,rfl⟩:∃B o,v= .pointer (some ⟨B,o,none⟩):=by obtain⟨B,o,_,_,_,_,_,_,rfl,_⟩:=h;exact⟨B,o,rfl⟩
 have H:=ah h;have P:=ah (K8 r hr _ W h);clear h hr;obtain⟨x,hx⟩:∃x,(Cases.gB r).1=x:=⟨_,rfl⟩
 obtain⟨y,hy⟩:∃y,(Cases.gB r).2=y:=⟨_,rfl⟩
 have D:=ah (K9 r x y hx hy);have HX:=ah hx;have HY:=ah hy;clear hx hy;by_cases cx:x=r<;>by_cases cy:y=r<;>cases cs:Cases.bf.contains r;all_goals
  have CX:=ah cx;have CY:=ah cy;have CS:=ah cs;clear cs;go_enter Tryz.func65,Tryz.ntmps65;go_wp2_with (first
   |(go_at_call 111
     refine P.out.mono ?_;rintro e w1 ⟨rfl,hb⟩;rw[HX.out,HY.out];have HB:=ah hb;clear hb)
   |(go_at_call 112
     refine(Nw r _ _ (zh H.out HB.out)).mono ?_;rintro e w2 ⟨⟨p,n,c,rfl,hp⟩,rfl⟩;rw[CS.out]at hp;have hz:=λw=>Jg p n c w;rw[hp]at hz))
  all_goals go_ret
  all_goals exact⟨by rw[D.out,CS.out];simp[CX.out,CY.out],HB.out⟩
theorem EL:((List.range 17).all λk=>decide (formsOf (Cases.bf.getD k 0)=some ((formsT.map (·.2)).getD k [])))=true:=by decide+kernel
theorem NA {k:Nat} (hk:k<17):formsOf (Cases.bf.getD k 0)=some ((formsT.map (·.2)).getD k []):=gK (dZ.1 EL k (nO.2 hk))
theorem VA (r:Int) (h:∀j,j<17->Cases.bf.getD j 0≠r):formsOf r=none:=by
 have h1:=GA r h;rw[<-formsOf_iff]at h1;cases hf:formsOf r with
 |none=>rfl
 |some fs=>rw[hf]at h1;cases h1
theorem uK {w w':World} {v:Value} (h:Gj w v) (hb:Below w.heap.size w w'):Gj w' v:=by obtain⟨h1,B,o,BS,oS,cS,rfl,c1,hS⟩:=h;refine⟨zh h1 hb,B,o,BS,oS,cS,rfl,by rw[hb.cell (aW c1)];exact c1,λj hj=> ?_⟩;obtain⟨u,h2,h3⟩:=hS j hj;exact⟨u,by rw[hb.cell (aW h2)];exact h2,fourIs_below h3 hb⟩
def Rv (r:Int) (w:World) (e:Ending) (w':World):Prop:=(∃p n c,e= .returned (.slice p n c)/\p.isSome=(formsOf r).isSome/\∀fs,formsOf r=some fs->Ej w (.slice p n c) fs)/\w'=w
theorem La (r:Int) (v:Value) (w:World) (h:Gj w v):Calls Tryz.prog 112 #[v, .int .i32 r] w (Rv r w):=by
 obtain⟨⟨B,o,BP,oP,cP,BS,oS,cS,rfl,c0,c1,l1,l2,hP,hS⟩,B',o',BS',oS',cS',hv,c1',hF⟩:=h;injection hv with hv;injection hv with hv;injection hv with hv1 hv2;subst hv1 hv2;rw[c1]at c1';injection c1' with c1';injection c1' with e1 e2 e3;injection e1 with e1;injection e1 with e4 e5;subst e4 e5;have HS:=ah hS;have HF:=ah hF;clear hS hP c0 hF e2 e3;go_enter Tryz.func112,Tryz.ntmps112;go_wp2;go_loop [5] (λi=>∃k:Nat,k<=17/\i= .int .i64 k/\∀j,j<k->Cases.bf.getD j 0≠r) (λi=>17-(RowKit.intOf i).toNat);case atStart=>exact⟨0,by omega,rfl,λj hj=>by omega⟩
 case round=>
  obtain⟨k,hk,rfl,hlo⟩:=hrel;have mY:=ah hlo;clear hlo;by_cases hlt:k<17
  ·obtain⟨d1,p,n,c,d2⟩:=HS.out k hlt;obtain⟨u,d3,h4⟩:=HF.out k hlt;rw[show oS+(2*k+1)=oS+2*k+1 by omega,d2]at d3;injection d3 with d3;have H4:=ah h4;clear h4;rw[<-d3]at H4;clear d3;rw[kX 2 k]at d1 d2;by_cases he:Cases.bf.getD k 0=r
   ·have HE:=ah he;rw[he]at d1;clear he;go_wp2;go_ret;have hf:formsOf r=some ((formsT.map (·.2)).getD k []):=by rw[<-HE.out];exact NA hlt
    exact⟨⟨_,_,_,rfl,by rw[hf];rfl,λfs hfs=>by rw[hf]at hfs;injection hfs with hfs;rw[<-hfs];exact H4.out⟩,rfl⟩
   ·obtain⟨x,hx⟩:∃x,Cases.bf.getD k 0=x:=⟨_,rfl⟩
    have HE:=ah he;rw[hx]at d1 he;clear hx;have hd:decide (x=r)=false:=aP he;go_wp2;go_round;case rel=>exact⟨k+1,hlt,by go_num,λj hj=>by
     rcases aF j k with c|c;·exact mY.out j c
     ·obtain rfl:j=k:=by omega
      exact HE.out⟩
    case measure=>simp[RowKit.intOf];omega
  ·obtain rfl:k=17:=by omega
   go_wp2;go_ret;have hf:=VA r mY.out;exact⟨⟨_,_,_,rfl,by rw[hf];rfl,λfs hfs=>by rw[hf]at hfs;cases hfs⟩,rfl⟩
theorem form2_ok (r:Int) (hr: -2147483648<=r/\r<=2147483647) (k:Nat) (hk:k<4) (v:Value) (W:World) (h:Gj W v):Calls Tryz.prog 67 #[v, .int .i32 r, .int .i64 k] W (uo (formV r k) W):=by
 obtain⟨B,o,rfl⟩:∃B o,v= .pointer (some ⟨B,o,none⟩):=by obtain⟨_,B,o,_,_,_,rfl,_⟩:=h;exact⟨B,o,rfl⟩
 have Fe:=ah (La r _ W h)
 have HP:=ah (K8 r hr _ W h.1)
 clear h
 cases hf:formsOf r with
 |some fs=>
  have HV:=ah (show formV r k=fs.getD k []by unfold formV;rw[hf])
  have HF:=ah hf;clear hf
  go_enter Tryz.func67,Tryz.ntmps67
  go_wp2_with (go_at_call 112
               refine Fe.out.mono ?_
               rintro e w2 ⟨⟨p,n,c,rfl,hp,h4⟩,rfl⟩
               rw[HF.out]at hp
               have hz:=λw=>Jg p n c w
               rw[hp]at hz
               obtain⟨g,o4,c4,h41,h42,h43⟩:=h4 _ HF.out
               injection h41 with e1 e2 e3
               subst e1 e2 e3
               obtain⟨s4,c4',hs4⟩:=h43 k hk
               have HS4:=ah hs4
               clear hs4 h43 hp)
  go_ret
  exact⟨_,rfl,by rw[HV.out];exact HS4.out,aK _ _⟩
 |none=>
  have HV:=ah (show formV r k=if k=0\/k=3 then[(Cases.gB r).1]else[(Cases.gB r).2]by unfold formV;rw[hf,Cases.UL])
  have HF:=ah hf;clear hf
  obtain⟨x,hx⟩:∃x,(Cases.gB r).1=x:=⟨_,rfl⟩
  obtain⟨y,hy⟩:∃y,(Cases.gB r).2=y:=⟨_,rfl⟩
  have HX:=ah hx;have HY:=ah hy;clear hx hy
  rw[HX.out,HY.out]at HV
  rw[HV.out]
  obtain rfl|rfl|rfl|rfl:k=0\/k=1\/k=2\/k=3:=by omega
  all_goals
   go_enter Tryz.func67,Tryz.ntmps67
   go_wp2_with (first
    |(go_at_call 112
      refine Fe.out.mono ?_
      rintro e w2 ⟨⟨p,n,c,rfl,hp,h4⟩,rfl⟩
      rw[HF.out]at hp
      have hz:=λw=>Jg p n c w
      rw[hp]at hz
      clear h4 hp)
    |(go_at_call 111
      refine HP.out.mono ?_
      rintro e w3 ⟨rfl,hb⟩
      rw[HX.out,HY.out]
      have HB:=ah hb;clear hb))
   go_ret
   exact⟨_,rfl,Al _ _ _ rfl,HB.out.alloc HB.out.size _⟩
section
open Folds (dec bn bL)
open rY (bt qE)
theorem kH (r:Int) (w:World):Calls Tryz.prog 163 #[.int .i32 r] w λe w'=>e= .returned (.bool (rZ r))/\w'=w:=by
 unfold rZ;by_cases h1:0<=r
 ·by_cases h2:r<=1114111
  ·by_cases h3:r<55296
   ·go_enter Tryz.func163,Tryz.ntmps163;go_wp2;go_ret;exact⟨by simp;try omega,rfl⟩
   ·by_cases h4:57343<r
    ·go_enter Tryz.func163,Tryz.ntmps163;go_wp2;go_ret;exact⟨by simp;try omega,rfl⟩
    ·go_enter Tryz.func163,Tryz.ntmps163;go_wp2;go_ret;exact⟨by simp;try omega,rfl⟩
  ·go_enter Tryz.func163,Tryz.ntmps163;go_wp2;go_ret;exact⟨by simp;try omega,rfl⟩
 ·go_enter Tryz.func163,Tryz.ntmps163;go_wp2;go_ret;exact⟨by simp;try omega,rfl⟩
def jS (r:Int):Nat:=if rZ r=true then(if r<128 then 1 else if r<2048 then 2 else if r<65536 then 3 else 4)else 0
theorem gL (r:Int) (w:World):Calls Tryz.prog 160 #[.int .i32 r] w λe w'=>e= .returned (.int .i64 (jS r))/\w'=w:=by
 unfold jS;cases h:rZ r with
 |false=>go_enter Tryz.func160,Tryz.ntmps160;go_wp2_with (go_at_call 163;refine(kH r _).mono ?_;rintro e w1 ⟨rfl,rfl⟩;rw[h]);go_ret;exact⟨rfl,rfl⟩
 |true=>
  rw[au rfl];by_cases h1:r<128;·rw[au h1];go_enter Tryz.func160,Tryz.ntmps160;go_wp2_with (go_at_call 163;refine(kH r _).mono ?_;rintro e w1 ⟨rfl,rfl⟩;rw[h]);go_ret;exact⟨rfl,rfl⟩
  ·rw[aj h1];by_cases h2:r<2048
   ·rw[au h2];go_enter Tryz.func160,Tryz.ntmps160;go_wp2_with (go_at_call 163;refine(kH r _).mono ?_;rintro e w1 ⟨rfl,rfl⟩;rw[h]);go_ret;exact⟨rfl,rfl⟩
   ·rw[aj h2];by_cases h3:r<65536
    ·rw[au h3];go_enter Tryz.func160,Tryz.ntmps160;go_wp2_with (go_at_call 163;refine(kH r _).mono ?_;rintro e w1 ⟨rfl,rfl⟩;rw[h]);go_ret;exact⟨rfl,rfl⟩
    ·rw[aj h3];go_enter Tryz.func160,Tryz.ntmps160;go_wp2_with (go_at_call 163;refine(kH r _).mono ?_;rintro e w1 ⟨rfl,rfl⟩;rw[h]);go_ret;exact⟨rfl,rfl⟩
theorem YA (r:Int) (_h0:0<=r) (_h1:r<=1114111) (w:World):Calls Tryz.prog 164 #[.int .i32 r, .int .i64 0] w λe w'=>e= .returned (.int .u8 (128+r%64))/\w'=w:=by go_enter Tryz.func164,Tryz.ntmps164;go_wp2;go_ret;exact⟨by first|rfl|(congr 1;omega),rfl⟩
theorem YC (r:Int) (_h0:0<=r) (_h1:r<=1114111) (w:World):Calls Tryz.prog 164 #[.int .i32 r, .int .i64 6] w λe w'=>e= .returned (.int .u8 (128+r/64%64))/\w'=w:=by go_enter Tryz.func164,Tryz.ntmps164;go_wp2;go_ret;exact⟨by first|rfl|(congr 1;omega),rfl⟩
theorem VB (r:Int) (_h0:0<=r) (_h1:r<=1114111) (w:World):Calls Tryz.prog 164 #[.int .i32 r, .int .i64 12] w λe w'=>e= .returned (.int .u8 (128+r/4096%64))/\w'=w:=by go_enter Tryz.func164,Tryz.ntmps164;go_wp2;go_ret;exact⟨by first|rfl|(congr 1;omega),rfl⟩
def kI (c:Int):Int×Int:=if c<128 then(1,c)else if 192<=c/\c<224 then(2,c%32)else if 224<=c/\c<240 then(3,c%16)else if 240<=c/\c<248 then(4,c%8)else(0,0)
def Lb (c:Int) (w:World) (e:Ending) (w':World):Prop:=e= .returned (.tuple #[.int .i64 (kI c).1, .int .i32 (kI c).2])/\w'=w
theorem o8 (c:Int) (h0:0<=c) (h1:c<256) (w:World):Calls Tryz.prog 159 #[.int .u8 c] w (Lb c w):=by
 unfold Lb kI;by_cases a1:c<128;·rw[au a1];go_enter Tryz.func159,Tryz.ntmps159;go_wp2;go_ret2;exact⟨rfl,rfl⟩
 ·rw[aj a1];by_cases a2:c<192
  ·rw[aj (by omega),aj (by omega),aj (by omega)];go_enter Tryz.func159,Tryz.ntmps159;go_wp2;go_ret2;exact⟨rfl,rfl⟩
  ·by_cases a3:c<224
   ·rw[au (by omega)];go_enter Tryz.func159,Tryz.ntmps159;go_wp2;go_ret2;exact⟨rfl,rfl⟩
   ·rw[aj (by omega)];by_cases a4:c<240
    ·rw[au (by omega)];go_enter Tryz.func159,Tryz.ntmps159;go_wp2;go_ret2;exact⟨rfl,rfl⟩
    ·rw[aj (by omega)];by_cases a5:c<248
     ·rw[au (by omega)];go_enter Tryz.func159,Tryz.ntmps159;go_wp2;go_ret2;exact⟨rfl,rfl⟩
     ·rw[aj (by omega)];go_enter Tryz.func159,Tryz.ntmps159;go_wp2;go_ret2;exact⟨rfl,rfl⟩
end
section
open rY (bt qE)
def NC (r u:Int):Int:=if u=0 then r%64 else if u=6 then r/64%64 else r/4096%64
theorem ND (r u:Int) (hu:u=0\/u=6\/u=12) (h0:0<=r) (h1:r<=1114111) (w:World):Calls Tryz.prog 164 #[.int .i32 r, .int .i64 u] w λe w'=>e= .returned (.int .u8 (128+NC r u))/\w'=w:=by
 rcases hu with rfl|rfl|rfl;·exact YA r h0 h1 w
 ·exact YC r h0 h1 w
 ·exact VB r h0 h1 w
theorem Jh (w:World) (ty:TypeId) (xs:List Int) (l:List UInt8) (hl:l.length=xs.length) (hx:∀j,j<xs.length->xs.getD j 0=(bt l j:Int)):
 BR (w.alloc (.cells (xs.map (Value.int .u8)).toArray ty)) (w.heap.size+1) (some ⟨w.heap.size,0,none⟩) xs.length l:=by
 refine⟨hl,λ_=>⟨w.heap.size,0,rfl,ow _,λj hj=> ?_⟩⟩;rw[bI,fu _ _ _ _ _ _ (jl w _),<-hx j hj];simp[hj]
def mZ (r:Int) (w:World) (e:Ending) (w':World):Prop:=e= .returned (.string ⟨(encR r).toArray⟩)/\Below w.heap.size w w'
theorem CG (c:Nat) (h:rZ (c:Int)=true):encR (c:Int)=wH c:=by rw[abE _ h,mg]
theorem yC (c:Nat) (h:rZ (c:Int)=true) (hc:c<128) (w:World):Calls Tryz.prog 113 #[.int .i32 (c:Int)] w (mZ c w):=by
 have hw:jS (c:Int)=1:=by unfold jS;rw[au h,au (by omega)]
 have hcv:=λk=>vT (Jh w 5 [(c:Int)] (wH c) (by unfold wH;rw[au hc];rfl) (λj hj=>by
  unfold wH;rw[au hc];match j,hj with
  |0,_=>show(c:Int)=((UInt8.ofNat c).toNat:Int);rw[ofNat_lt c (by omega)])) k
 rw[show[(c:Int)].map (Value.int .u8)=[.int .u8 (c:Int)]from rfl,show[(c:Int)].length=1 from rfl]at hcv;unfold mZ;rw[CG c h];have H:=ah h;have HW:=ah hw;clear h hw;go_enter Tryz.func113,Tryz.ntmps113;go_wp2_with (first
  |(go_at_call 163;refine(kH _ _).mono ?_;rintro e w1 ⟨rfl,rfl⟩;rw[H.out])
  |(go_at_call 160;refine(gL _ _).mono ?_;rintro e w1 ⟨rfl,rfl⟩;rw[HW.out]))
 go_ret;exact⟨rfl,(aK _ _).alloc (ay _) _⟩
theorem YD (c:Nat) (h:rZ (c:Int)=true) (hc:¬c<128) (hd:c<2048) (w:World):Calls Tryz.prog 113 #[.int .i32 (c:Int)] w (mZ c w):=by
 have hw:jS (c:Int)=2:=by unfold jS;rw[au h,aj (by omega),au (by omega)]
 have hcv:=λk=>vT (Jh w 5 [192+(c:Int)/64,128+(c:Int)%64] (wH c) (by unfold wH;rw[aj hc,au hd];rfl) (λj hj=>by
  unfold wH;rw[aj hc,au hd];match j,hj with
  |0,_=>show 192+(c:Int)/64=((UInt8.ofNat (192+c/64)).toNat:Int);rw[ofNat_lt _ (by omega)];omega
  |1,_=>show 128+(c:Int)%64=((UInt8.ofNat (128+c%64)).toNat:Int);rw[ofNat_lt _ (by omega)];omega)) k
 rw[show[192+(c:Int)/64,128+(c:Int)%64].map (Value.int .u8)=[.int .u8 (192+(c:Int)/64), .int .u8 (128+(c:Int)%64)]from rfl,show[192+(c:Int)/64,128+(c:Int)%64].length=2 from rfl]at hcv;unfold mZ;rw[CG c h];have H:=ah h;have HW:=ah hw;clear h hw;go_enter Tryz.func113,Tryz.ntmps113;go_wp2_with (first
  |(go_at_call 163;refine(kH _ _).mono ?_;rintro e w1 ⟨rfl,rfl⟩;rw[H.out])
  |(go_at_call 160;refine(gL _ _).mono ?_;rintro e w1 ⟨rfl,rfl⟩;rw[HW.out])
  |(go_at_call 164;refine(ND _ _ (by decide) (by omega) (by omega) _).mono ?_;rintro e w1 ⟨rfl,rfl⟩;rw[show NC (c:Int) 0=(c:Int)%64 from rfl]))
 go_ret;exact⟨rfl,(aK _ _).alloc (ay _) _⟩
theorem YE (c:Nat) (h:rZ (c:Int)=true) (hc:¬c<2048) (hd:c<65536) (w:World):Calls Tryz.prog 113 #[.int .i32 (c:Int)] w (mZ c w):=by
 have hw:jS (c:Int)=3:=by unfold jS;rw[au h,aj (by omega),aj (by omega),au (by omega)]
 have hcv:=λk=>vT (Jh w 5 [224+(c:Int)/4096,128+(c:Int)/64%64,128+(c:Int)%64] (wH c) (by unfold wH;rw[aj (by omega),aj (by omega),au hd];rfl) (λj hj=>by
  unfold wH;rw[aj (by omega),aj (by omega),au hd];match j,hj with
  |0,_=>show 224+(c:Int)/4096=((UInt8.ofNat (224+c/4096)).toNat:Int);rw[ofNat_lt _ (by omega)];omega
  |1,_=>show 128+(c:Int)/64%64=((UInt8.ofNat (128+c/64%64)).toNat:Int);rw[ofNat_lt _ (by omega)];omega
  |2,_=>show 128+(c:Int)%64=((UInt8.ofNat (128+c%64)).toNat:Int);rw[ofNat_lt _ (by omega)];omega)) k
 rw[show[224+(c:Int)/4096,128+(c:Int)/64%64,128+(c:Int)%64].map (Value.int .u8)=[.int .u8 (224+(c:Int)/4096), .int .u8 (128+(c:Int)/64%64), .int .u8 (128+(c:Int)%64)]from rfl,show[224+(c:Int)/4096,128+(c:Int)/64%64,128+(c:Int)%64].length=3 from rfl]at hcv;unfold mZ;rw[CG c h];have H:=ah h;have HW:=ah hw;clear h hw;go_enter Tryz.func113,Tryz.ntmps113;go_wp2_with (first
  |(go_at_call 163;refine(kH _ _).mono ?_;rintro e w1 ⟨rfl,rfl⟩;rw[H.out])
  |(go_at_call 160;refine(gL _ _).mono ?_;rintro e w1 ⟨rfl,rfl⟩;rw[HW.out])
  |(go_at_call 164;refine(ND _ _ (by decide) (by omega) (by omega) _).mono ?_;rintro e w1 ⟨rfl,rfl⟩;first|rw[show NC (c:Int) 0=(c:Int)%64 from rfl]|rw[show NC (c:Int) 6=(c:Int)/64%64 from rfl]))
 go_ret;exact⟨rfl,(aK _ _).alloc (ay _) _⟩
theorem YF (c:Nat) (h:rZ (c:Int)=true) (hc:¬c<65536) (w:World):Calls Tryz.prog 113 #[.int .i32 (c:Int)] w (mZ c w):=by
 have hR:=(jc _).1 h;have hw:jS (c:Int)=4:=by unfold jS;rw[au h,aj (by omega),aj (by omega),aj (by omega)]
 have hcv:=λk=>vT (Jh w 5 [240+(c:Int)/262144,128+(c:Int)/4096%64,128+(c:Int)/64%64,128+(c:Int)%64] (wH c) (by unfold wH;rw[aj (by omega),aj (by omega),aj hc];rfl) (λj hj=>by
  unfold wH;rw[aj (by omega),aj (by omega),aj hc];match j,hj with
  |0,_=>show 240+(c:Int)/262144=((UInt8.ofNat (240+c/262144)).toNat:Int);rw[ofNat_lt _ (by omega)];omega
  |1,_=>show 128+(c:Int)/4096%64=((UInt8.ofNat (128+c/4096%64)).toNat:Int);rw[ofNat_lt _ (by omega)];omega
  |2,_=>show 128+(c:Int)/64%64=((UInt8.ofNat (128+c/64%64)).toNat:Int);rw[ofNat_lt _ (by omega)];omega
  |3,_=>show 128+(c:Int)%64=((UInt8.ofNat (128+c%64)).toNat:Int);rw[ofNat_lt _ (by omega)];omega)) k
 rw[show[240+(c:Int)/262144,128+(c:Int)/4096%64,128+(c:Int)/64%64,128+(c:Int)%64].map (Value.int .u8)=[.int .u8 (240+(c:Int)/262144), .int .u8 (128+(c:Int)/4096%64), .int .u8 (128+(c:Int)/64%64), .int .u8 (128+(c:Int)%64)]from rfl,show[240+(c:Int)/262144,128+(c:Int)/4096%64,128+(c:Int)/64%64,128+(c:Int)%64].length=4 from rfl]at hcv;unfold mZ;rw[CG c h];have H:=ah h;have HW:=ah hw;clear h hw;obtain⟨_,hc2,_⟩:=hR;go_enter Tryz.func113,Tryz.ntmps113;go_wp2_with (first
  |(go_at_call 163;refine(kH _ _).mono ?_;rintro e w1 ⟨rfl,rfl⟩;rw[H.out])
  |(go_at_call 160;refine(gL _ _).mono ?_;rintro e w1 ⟨rfl,rfl⟩;rw[HW.out])
  |(go_at_call 164;refine(ND _ _ (by decide) (by omega) (by omega) _).mono ?_;rintro e w1 ⟨rfl,rfl⟩;first|rw[show NC (c:Int) 0=(c:Int)%64 from rfl]|rw[show NC (c:Int) 6=(c:Int)/64%64 from rfl]|rw[show NC (c:Int) 12=(c:Int)/4096%64 from rfl]))
 go_ret;exact⟨rfl,(aK _ _).alloc (ay _) _⟩
theorem NG (r:Int) (h:rZ r=true) (w:World):Calls Tryz.prog 113 #[.int .i32 r] w (mZ r w):=by
 obtain⟨c,rfl⟩:=Co ((jc _).1 h).1;by_cases h1:c<128;·exact yC c h h1 w
 ·by_cases h2:c<2048
  ·exact YD c h h1 h2 w
  ·by_cases h3:c<65536
   ·exact YE c h h2 h3 w
   ·exact YF c h h3 w
theorem Lc (l:List Int) (v:Value) (W:World) (h:fA W v l) (hl:l.length<=100) (hv:∀x∈l,rZ x=true):Calls Tryz.prog 66 #[v] W (KR l W):=by
 obtain⟨A,c,rfl,hc,hcell⟩:=h;obtain⟨n,hn⟩:∃n,l.length=n:=⟨_,rfl⟩
 have HC:=ah hcell;have HN:=ah hn;have HV:=ah hv;clear hcell hv;rw[hn]at hl hc⊢;clear hn;obtain⟨i0,hi0,hz0,hz1,hz2⟩:=gW Aj;go_enter Tryz.func66,Tryz.ntmps66;go_wp2;go_loopw [3,4] (λvb i wr=>∃k:Nat,k<=n/\i= .int .i64 k/\TxL W l k vb wr) (λ_ i _=>n-(RowKit.intOf i).toNat);case atStart=>exact⟨0,aL _,rfl,aK _ _,⟨rfl, .inl ⟨rfl,rfl⟩⟩⟩
 case round=>
  obtain⟨k,hk,rfl,hE⟩:=hrel;have HE:=ah hE;clear hE;obtain⟨A1,c1,rfl,_⟩:=qB HE.out.own;by_cases hlt:k<n
  ·obtain⟨g,o,rfl,hg⟩:=HC.out (by rw[HN.out];omega);have d0:=hg k (by rw[HN.out];exact hlt);have hgs:=aW d0;rw[<-HE.out.aN.cell (p:=⟨g,o+k,none⟩) hgs]at d0;clear hg hgs;have hrv:rZ (l.getD k 0)=true:=HV.out _ (by
    rw[aG,aS (by rw[HN.out];exact hlt)];exact iN _)
   obtain⟨r,hr⟩:∃r,l.getD k 0=r:=⟨_,rfl⟩
   rw[hr]at d0 hrv;have HRV:=ah hrv;have HT:=ah (Gq l (k:=k) (by rw[HN.out];exact hlt));have HR:=ah hr;clear hr hrv;have hlen:=lU (l.take k);rw[jh]at hlen;have hlr:=Es r;have HL:=ah (And.intro hlen hlr);clear hlen hlr;go_wp2_with (first
    |(go_at_call 113;refine(NG r HRV.out _).mono ?_;rintro e w1 ⟨rfl,hb1⟩;have HB1:=ah hb1;clear hb1;have HO1:=ah (own_below HB1.out HE.out.own))
    |(at_builtin
      (refine um _ rfl (.tmp 11) (.tmp 16) 65 9 5 rfl Tryz.underlying65 Tryz.underlying9 W.heap.size i0 hi0 hz0 hz1 hz2 _ _ _ rfl HO1.out (encR r) _ rfl rfl ?_ ?_ ?_);·have:=HL.out;have:=HN.out;omega
      ·exact bF HE.out.aN.size HB1.out.size
      intro v' w2 hown2 hgrow2 abD;obtain⟨A2,c2,rfl,_⟩:=qB hown2;have U6:=ah hown2;have HG2:=ah hgrow2;clear hown2 hgrow2 abD))
   go_roundw;case rel=>
    refine⟨k+1,hlt,by go_num,?_,?_⟩;·exact(HE.out.aN.trans (HB1.out.mono HE.out.aN.size)).grown HG2.out (bF HE.out.aN.size HB1.out.size) (λg hg=>(dO HO1.out hg).1)
    ·have:=U6.out;rw[<-Er,<-HR.out]at this;rw[<-HR.out,HT.out,bV];exact this
   case measure=>simp[RowKit.intOf];omega
  ·obtain rfl:k=n:=by omega
   have htk:l.take k=l:=xG (by rw[HN.out];exact ay _);obtain⟨hl2,A2,c2,he,hbr,_⟩:=BR.U5 HE.out.own;injection he with e1 e2 e3;subst e1;have U7:=λc=>vT hbr c;rw[htk]at U7;have Z0:=ah htk;clear htk hbr;rw[Z0.out];go_wp2;go_ret;exact⟨rfl,HE.out.aN⟩
end
section
open Folds (dec bn bL)
open rY (bt qE)
theorem VD:((List.range 256).all λb=>(bits BinOp.and IntKind.u8 (b:Int) 192 !=128)==decide (b/64≠2))=true:=by decide+kernel
theorem nE {b:Nat} (h:b<256):(bits BinOp.and IntKind.u8 (b:Int) 192 !=128)=decide (b/64≠2):=by have:=dZ.1 VD b (nO.2 h);exact eq_of_beq this
theorem byte_at (s:ByteArray) (l:List UInt8) (hs:(⟨l.toArray⟩:ByteArray)=s) (i:Nat) (h:i<s.size):(s[i]'h).toNat=bt l i:=by
 subst hs;have h':i<l.length:=by simpa[ByteArray.size]using h
 show((⟨l.toArray⟩:ByteArray).data[i]'(by simpa using h')).toNat=_;unfold bt;rw[aG,aS h'];simp
def kJ (n b0 b1 b2 b3:Nat) (w:World) (e:Ending) (w':World):Prop:=e= .returned (.tuple #[.int .i32 (decodeN n b0 b1 b2 b3).1, .int .i64 (decodeN n b0 b1 b2 b3).2])/\w'=w
theorem bZ {n b0 b1 b2 b3 r k:Nat} {w:World} (h:decodeN n b0 b1 b2 b3=(r,k)) {v:Value} (hv:v= .tuple #[.int .i32 (r:Nat), .int .i64 (k:Nat)]):kJ n b0 b1 b2 b3 w (.returned v) w:=by subst hv;unfold kJ;rw[h];exact⟨rfl,rfl⟩
theorem fault0 (n b0 b1 b2 b3:Nat) (h:(128<=b0/\b0<192)\/(248<=b0/\b0<256)):decodeN n b0 b1 b2 b3=(65533,1):=by unfold decodeN;rw[aj (by omega),aj (by omega),aj (by omega),aj (by omega)]
theorem fault2 (n b0 b1 b2 b3:Nat) (h:192<=b0/\b0<224) (h2:n<2\/b1/64≠2\/b0%32*64+b1%64<128):decodeN n b0 b1 b2 b3=(65533,1):=by
 unfold decodeN;rw[aj (by omega)];by_cases c:b0/32=6/\(1<n/\b1/64=2)
 ·rw[au c,aj (by omega)]
 ·rw[aj c,aj (by omega),aj (by omega)]
theorem aeW (n b0 b1 b2 b3:Nat) (h:192<=b0/\b0<224) (h2:2<=n/\b1/64=2/\128<=b0%32*64+b1%64):decodeN n b0 b1 b2 b3=(b0%32*64+b1%64,2):=by unfold decodeN;rw[aj (by omega),au (by omega),au (by omega)]
theorem fault3 (n b0 b1 b2 b3:Nat) (h:224<=b0/\b0<240) (h2:n<3\/b1/64≠2\/b2/64≠2\/¬(b0%16*4096+b1%64*64+b2%64≥2048/\(b0%16*4096+b1%64*64+b2%64<55296\/57344<=b0%16*4096+b1%64*64+b2%64))):decodeN n b0 b1 b2 b3=(65533,1):=by
 unfold decodeN;rw[aj (by omega),aj (by omega)];by_cases c:b0/16=14/\(1<n/\b1/64=2)/\(2<n/\b2/64=2)
 ·rw[au c,aj (by omega)]
 ·rw[aj c,aj (by omega)]
theorem aeX (n b0 b1 b2 b3:Nat) (h:224<=b0/\b0<240) (h2:3<=n/\b1/64=2/\b2/64=2/\(b0%16*4096+b1%64*64+b2%64≥2048/\(b0%16*4096+b1%64*64+b2%64<55296\/57344<=b0%16*4096+b1%64*64+b2%64))):decodeN n b0 b1 b2 b3=(b0%16*4096+b1%64*64+b2%64,3):=by unfold decodeN;rw[aj (by omega),aj (by omega),au (by omega),au (by omega)]
theorem fault4 (n b0 b1 b2 b3:Nat) (h:240<=b0/\b0<248) (h2:n<4\/b1/64≠2\/b2/64≠2\/b3/64≠2\/¬(b0%8*262144+b1%64*4096+b2%64*64+b3%64≥65536/\b0%8*262144+b1%64*4096+b2%64*64+b3%64<=1114111)):decodeN n b0 b1 b2 b3=(65533,1):=by
 unfold decodeN;rw[aj (by omega),aj (by omega),aj (by omega)];by_cases c:b0/8=30/\(1<n/\b1/64=2)/\(2<n/\b2/64=2)/\(3<n/\b3/64=2)
 ·rw[au c,aj (by omega)]
 ·rw[aj c]
theorem aeY (n b0 b1 b2 b3:Nat) (h:240<=b0/\b0<248) (h2:4<=n/\b1/64=2/\b2/64=2/\b3/64=2/\(b0%8*262144+b1%64*4096+b2%64*64+b3%64≥65536/\b0%8*262144+b1%64*4096+b2%64*64+b3%64<=1114111)):decodeN n b0 b1 b2 b3=(b0%8*262144+b1%64*4096+b2%64*64+b3%64,4):=by unfold decodeN;rw[aj (by omega),aj (by omega),aj (by omega),au (by omega),au (by omega)]
theorem PE (s:ByteArray) (h:0<s.size) (b0 b1 b2 b3:Nat) (x0:(s[0]'h).toNat=b0) (hb:(128<=b0/\b0<192)\/(248<=b0/\b0<256)) (w:World):Calls Tryz.prog 107 #[.string s] w (kJ s.size b0 b1 b2 b3 w):=by
 have HL:=ah (show kI (b0:Int)=(0,0)by unfold kI;rw[aj (by omega),aj (by omega),aj (by omega),aj (by omega)]);have HD:=ah (fault0 s.size b0 b1 b2 b3 hb);have HB:=ah (show b0<256 by omega);clear hb;have hne:((s.size:Int)==0)=false:=by rw[dH];omega
 go_enter Tryz.func107,Tryz.ntmps107;go_wp2_with (go_at_call 159;refine(o8 _ (by omega) (by have:=HB.out;omega) _).mono ?_;rintro e w1 ⟨rfl,rfl⟩;rw[HL.out]);go_ret2;exact bZ HD.out rfl
theorem YG (s:ByteArray) (h:0<s.size) (b0 b1 b2 b3:Nat) (x0:(s[0]'h).toNat=b0) (hb:b0<128) (w:World):Calls Tryz.prog 107 #[.string s] w (kJ s.size b0 b1 b2 b3 w):=by
 have HL:=ah (show kI (b0:Int)=(1,(b0:Int))by unfold kI;rw[au (by omega)]);have HD:=ah (decodeN_ascii s.size b0 b1 b2 b3 hb);have HB:=ah hb;have HW:=ah (show jS (b0:Int)=1 by unfold jS;rw[au ((jc _).2 (by omega)),au (by omega)]);clear hb;have hne:((s.size:Int)==0)=false:=by rw[dH];omega
 go_enter Tryz.func107,Tryz.ntmps107;go_wp2_with (go_at_call 159;refine(o8 _ (by omega) (by have:=HB.out;omega) _).mono ?_;rintro e w1 ⟨rfl,rfl⟩;rw[HL.out]);go_loopw [6,5] (λvi vr wr=>wr=w1/\vi= .int .i64 1/\vr= .int .i32 (b0:Int)) (λ_ _ _=>0);case atStart=>exact⟨rfl,rfl,rfl⟩
 case round=>obtain⟨rfl,rfl,rfl⟩:=hrel;go_wp2_with (go_at_call 160;refine(gL _ _).mono ?_;rintro e w2 ⟨rfl,rfl⟩;rw[HW.out]);go_ret2;exact bZ HD.out rfl
theorem YH (rr:Int) (h0:0<=rr) (h1:rr<=2047) (h:¬(128<=rr)):jS rr≠2:=by
 unfold jS;by_cases c:rZ rr=true
 ·have:=(jc _).1 c;rw[au c];repeat' split
  all_goals omega
 ·rw[aj c];omega
theorem VE (s:ByteArray) (h:0<s.size) (hk:s.size<2) (b0 b1 b2 b3:Nat) (x0:(s[0]'h).toNat=b0) (a0:192<=b0) (a1:b0<224) (w:World):Calls Tryz.prog 107 #[.string s] w (kJ s.size b0 b1 b2 b3 w):=by
 have HL:=ah (show kI (b0:Int)=(2,(b0:Int)%32)by unfold kI;rw[aj (by omega),au (by omega)]);have HD:=ah (fault2 s.size b0 b1 b2 b3 ⟨a0,a1⟩ (.inl hk));have HB:=ah (show b0<256 by omega);clear a0 a1;have hne:((s.size:Int)==0)=false:=by rw[dH];omega
 go_enter Tryz.func107,Tryz.ntmps107;go_wp2_with (go_at_call 159;refine(o8 _ (by omega) (by have:=HB.out;omega) _).mono ?_;rintro e w1 ⟨rfl,rfl⟩;rw[HL.out]);go_ret2;exact bZ HD.out rfl
theorem YI (s:ByteArray) (hk:2<=s.size) (hz:s.size<=100000) (b0 b1 b2 b3:Nat) (x0:(s[0]'(by omega)).toNat=b0) (x1:(s[1]'(by omega)).toNat=b1) (h1:b1<256) (a0:192<=b0) (a1:b0<224) (w:World):Calls Tryz.prog 107 #[.string s] w (kJ s.size b0 b1 b2 b3 w):=by
 have HL:=ah (show kI (b0:Int)=(2,(b0:Int)%32)by unfold kI;rw[aj (by omega),au (by omega)]);have HF:=ah (fault2 s.size b0 b1 b2 b3 ⟨a0,a1⟩);have HG:=ah (aeW s.size b0 b1 b2 b3 ⟨a0,a1⟩);have HB:=ah (show b0<256 by omega);have Xd:=ah (nE h1);have hne:((s.size:Int)==0)=false:=by rw[dH];omega
 have hsz:decide ((s.size:Int)<2)=false:=aP (by omega);clear a0 a1;go_enter Tryz.func107,Tryz.ntmps107;go_wp2_with (go_at_call 159;refine(o8 _ (by omega) (by have:=HB.out;omega) _).mono ?_;rintro e w1 ⟨rfl,rfl⟩;rw[HL.out]);obtain⟨r0,hr0⟩:∃r0:Int,(b0:Int)%32=r0:=⟨_,rfl⟩
 have q0:0<=r0:=by omega
 have q1:r0<32:=by omega
 rw[hr0];have Xf:=ah hr0;clear hr0;go_loopw [6,5] (λvi vr wr=>wr=w1/\((vi= .int .i64 1/\vr= .int .i32 r0)\/(vi= .int .i64 2/\vr= .int .i32 (r0*64+(b1:Int)%64)/\b1/64=2))) (λvi _ _=>(2-RowKit.intOf vi).toNat);case atStart=>exact⟨rfl, .inl ⟨rfl,rfl⟩⟩
 case round=>
  obtain⟨rfl,⟨rfl,rfl⟩|⟨rfl,rfl,k1⟩⟩:=hrel
  ·by_cases c1:b1/64=2
   ·have hc:(bits BinOp.and IntKind.u8 (b1:Int) 192 !=128)=false:=by rw[Xd.out];exact aP (λh=>h c1)
    have C1:=ah c1;clear c1;go_wp2_with fail;go_roundw;case rel=>exact⟨by first|rfl|trivial, .inr (⟨rfl,rfl,C1.out⟩)⟩
    case measure=>simp[RowKit.intOf]
   ·have hc:(bits BinOp.and IntKind.u8 (b1:Int) 192 !=128)=true:=by rw[Xd.out];exact aO c1
    have C1:=ah c1;clear c1;go_wp2_with fail;go_ret2;exact bZ (HF.out (.inr (.inl C1.out))) rfl
  ·have K1:=ah k1;clear k1;obtain⟨rr,hrr⟩:∃rr:Int,(r0*64+(b1:Int)%64)=rr:=⟨_,rfl⟩
   have HRR:=ah hrr;have hfull:rr=((b0%32*64+b1%64:Nat):Int):=by have:=Xf.out;omega
   have hub:0<=rr/\rr<=2047:=by omega
   by_cases cw:128<=rr;·have HW:=ah (show jS rr=2 by unfold jS;rw[au ((jc _).2 (by omega)),aj (by omega),au (by omega)]);have HD:=ah (HG.out ⟨hk,K1.out,by omega⟩);have HFU:=ah hfull;clear hrr hfull cw hub;go_wp2_with (go_at_call 160;refine(gL _ _).mono ?_;rintro e w2 ⟨rfl,rfl⟩;rw[HRR.out,HW.out]);go_ret2;exact bZ HD.out (by rw[<-HFU.out,<-HRR.out];rfl)
   ·have hwne:jS rr≠2:=YH rr hub.1 hub.2 cw;have HD:=ah (HF.out (.inr (.inr (by omega))));obtain⟨ww,VF⟩:∃ww,jS rr=ww:=⟨_,rfl⟩
    rw[VF]at hwne;have HW:=ah VF;have hb:(((ww:Nat):Int) !=2)=true:=by simp;omega
    clear hrr hfull cw hub VF;go_wp2_with (go_at_call 160;refine(gL _ _).mono ?_;rintro e w2 ⟨rfl,rfl⟩;rw[HRR.out,HW.out]);go_ret2;exact bZ HD.out rfl
theorem YJ (rr:Int) (h0:0<=rr) (h1:rr<=65535) (h:¬(2048<=rr/\(rr<55296\/57343<rr))):jS rr≠3:=by
 unfold jS;by_cases c:rZ rr=true
 ·have:=(jc _).1 c;rw[au c];repeat' split
  all_goals omega
 ·rw[aj c];omega
theorem VG (s:ByteArray) (h:0<s.size) (hk:s.size<3) (b0 b1 b2 b3:Nat) (x0:(s[0]'h).toNat=b0) (a0:224<=b0) (a1:b0<240) (w:World):Calls Tryz.prog 107 #[.string s] w (kJ s.size b0 b1 b2 b3 w):=by
 have HL:=ah (show kI (b0:Int)=(3,(b0:Int)%16)by unfold kI;rw[aj (by omega),aj (by omega),au (by omega)]);have HD:=ah (fault3 s.size b0 b1 b2 b3 ⟨a0,a1⟩ (.inl hk));have HB:=ah (show b0<256 by omega);clear a0 a1;have hne:((s.size:Int)==0)=false:=by rw[dH];omega
 go_enter Tryz.func107,Tryz.ntmps107;go_wp2_with (go_at_call 159;refine(o8 _ (by omega) (by have:=HB.out;omega) _).mono ?_;rintro e w1 ⟨rfl,rfl⟩;rw[HL.out]);go_ret2;exact bZ HD.out rfl
theorem YK (s:ByteArray) (hk:3<=s.size) (hz:s.size<=100000) (b0 b1 b2 b3:Nat) (x0:(s[0]'(by omega)).toNat=b0) (x1:(s[1]'(by omega)).toNat=b1) (x2:(s[2]'(by omega)).toNat=b2) (h1:b1<256) (h2:b2<256) (a0:224<=b0) (a1:b0<240) (w:World):Calls Tryz.prog 107 #[.string s] w (kJ s.size b0 b1 b2 b3 w):=by
 have HL:=ah (show kI (b0:Int)=(3,(b0:Int)%16)by unfold kI;rw[aj (by omega),aj (by omega),au (by omega)]);have HF:=ah (fault3 s.size b0 b1 b2 b3 ⟨a0,a1⟩);have HG:=ah (aeX s.size b0 b1 b2 b3 ⟨a0,a1⟩);have HB:=ah (show b0<256 by omega);have Xd:=ah (nE h1);have HC2:=ah (nE h2);have hne:((s.size:Int)==0)=false:=by rw[dH];omega
 have hsz:decide ((s.size:Int)<3)=false:=aP (by omega);clear a0 a1;go_enter Tryz.func107,Tryz.ntmps107;go_wp2_with (go_at_call 159;refine(o8 _ (by omega) (by have:=HB.out;omega) _).mono ?_;rintro e w1 ⟨rfl,rfl⟩;rw[HL.out]);obtain⟨r0,hr0⟩:∃r0:Int,(b0:Int)%16=r0:=⟨_,rfl⟩
 have q0:0<=r0:=by omega
 have q1:r0<16:=by omega
 rw[hr0];have Xf:=ah hr0;clear hr0;go_loopw [6,5] (λvi vr wr=>wr=w1/\((vi= .int .i64 1/\vr= .int .i32 r0)\/(vi= .int .i64 2/\vr= .int .i32 (r0*64+(b1:Int)%64)/\b1/64=2)\/(vi= .int .i64 3/\vr= .int .i32 ((r0*64+(b1:Int)%64)*64+(b2:Int)%64)/\b1/64=2/\b2/64=2))) (λvi _ _=>(3-RowKit.intOf vi).toNat);case atStart=>exact⟨rfl, .inl ⟨rfl,rfl⟩⟩
 case round=>
  obtain⟨rfl,⟨rfl,rfl⟩|⟨rfl,rfl,k1⟩|⟨rfl,rfl,k1,k2⟩⟩:=hrel
  ·by_cases c1:b1/64=2
   ·have hc:(bits BinOp.and IntKind.u8 (b1:Int) 192 !=128)=false:=by rw[Xd.out];exact aP (λh=>h c1)
    have C1:=ah c1;clear c1;go_wp2_with fail;go_roundw;case rel=>exact⟨by first|rfl|trivial, .inr (.inl ⟨rfl,rfl,C1.out⟩)⟩
    case measure=>simp[RowKit.intOf]
   ·have hc:(bits BinOp.and IntKind.u8 (b1:Int) 192 !=128)=true:=by rw[Xd.out];exact aO c1
    have C1:=ah c1;clear c1;go_wp2_with fail;go_ret2;exact bZ (HF.out (.inr (.inl C1.out))) rfl
  ·have K1:=ah k1;clear k1;by_cases c2:b2/64=2
   ·have hc:(bits BinOp.and IntKind.u8 (b2:Int) 192 !=128)=false:=by rw[HC2.out];exact aP (λh=>h c2)
    have C2:=ah c2;clear c2;go_wp2_with fail;go_roundw;case rel=>exact⟨by first|rfl|trivial, .inr (.inr (⟨rfl,rfl,K1.out,C2.out⟩))⟩
    case measure=>simp[RowKit.intOf]
   ·have hc:(bits BinOp.and IntKind.u8 (b2:Int) 192 !=128)=true:=by rw[HC2.out];exact aO c2
    have C2:=ah c2;clear c2;go_wp2_with fail;go_ret2;exact bZ (HF.out (.inr (.inr (.inl C2.out)))) rfl
  ·have K1:=ah k1;clear k1;have K2:=ah k2;clear k2;obtain⟨rr,hrr⟩:∃rr:Int,((r0*64+(b1:Int)%64)*64+(b2:Int)%64)=rr:=⟨_,rfl⟩
   have HRR:=ah hrr;have hfull:rr=((b0%16*4096+b1%64*64+b2%64:Nat):Int):=by have:=Xf.out;omega
   have hub:0<=rr/\rr<=65535:=by omega
   by_cases cw:2048<=rr/\(rr<55296\/57343<rr)
   ·have HW:=ah (show jS rr=3 by unfold jS;rw[au ((jc _).2 (by omega)),aj (by omega),aj (by omega),au (by omega)]);have HD:=ah (HG.out ⟨hk,K1.out,K2.out,by omega⟩);have HFU:=ah hfull;clear hrr hfull cw hub;go_wp2_with (go_at_call 160;refine(gL _ _).mono ?_;rintro e w2 ⟨rfl,rfl⟩;rw[HRR.out,HW.out]);go_ret2;exact bZ HD.out (by rw[<-HFU.out,<-HRR.out];rfl)
   ·have hwne:jS rr≠3:=YJ rr hub.1 hub.2 cw;have HD:=ah (HF.out (.inr (.inr (.inr (by omega)))));obtain⟨ww,VF⟩:∃ww,jS rr=ww:=⟨_,rfl⟩
    rw[VF]at hwne;have HW:=ah VF;have hb:(((ww:Nat):Int) !=3)=true:=by simp;omega
    clear hrr hfull cw hub VF;go_wp2_with (go_at_call 160;refine(gL _ _).mono ?_;rintro e w2 ⟨rfl,rfl⟩;rw[HRR.out,HW.out]);go_ret2;exact bZ HD.out rfl
theorem YL (rr:Int) (h0:0<=rr) (h1:rr<=2097151) (h:¬(65536<=rr/\rr<=1114111)):jS rr≠4:=by
 unfold jS;by_cases c:rZ rr=true
 ·have:=(jc _).1 c;rw[au c];repeat' split
  all_goals omega
 ·rw[aj c];omega
theorem VH (s:ByteArray) (h:0<s.size) (hk:s.size<4) (b0 b1 b2 b3:Nat) (x0:(s[0]'h).toNat=b0) (a0:240<=b0) (a1:b0<248) (w:World):Calls Tryz.prog 107 #[.string s] w (kJ s.size b0 b1 b2 b3 w):=by
 have HL:=ah (show kI (b0:Int)=(4,(b0:Int)%8)by unfold kI;rw[aj (by omega),aj (by omega),aj (by omega),au (by omega)]);have HD:=ah (fault4 s.size b0 b1 b2 b3 ⟨a0,a1⟩ (.inl hk));have HB:=ah (show b0<256 by omega);clear a0 a1;have hne:((s.size:Int)==0)=false:=by rw[dH];omega
 go_enter Tryz.func107,Tryz.ntmps107;go_wp2_with (go_at_call 159;refine(o8 _ (by omega) (by have:=HB.out;omega) _).mono ?_;rintro e w1 ⟨rfl,rfl⟩;rw[HL.out]);go_ret2;exact bZ HD.out rfl
theorem YM (s:ByteArray) (hk:4<=s.size) (hz:s.size<=100000) (b0 b1 b2 b3:Nat) (x0:(s[0]'(by omega)).toNat=b0) (x1:(s[1]'(by omega)).toNat=b1) (x2:(s[2]'(by omega)).toNat=b2) (x3:(s[3]'(by omega)).toNat=b3) (h1:b1<256) (h2:b2<256) (h3:b3<256) (a0:240<=b0) (a1:b0<248) (w:World):Calls Tryz.prog 107 #[.string s] w (kJ s.size b0 b1 b2 b3 w):=by
 have HL:=ah (show kI (b0:Int)=(4,(b0:Int)%8)by unfold kI;rw[aj (by omega),aj (by omega),aj (by omega),au (by omega)]);have HF:=ah (fault4 s.size b0 b1 b2 b3 ⟨a0,a1⟩);have HG:=ah (aeY s.size b0 b1 b2 b3 ⟨a0,a1⟩);have HB:=ah (show b0<256 by omega);have Xd:=ah (nE h1);have HC2:=ah (nE h2);have HC3:=ah (nE h3);have hne:((s.size:Int)==0)=false:=by rw[dH];omega
 have hsz:decide ((s.size:Int)<4)=false:=aP (by omega);clear a0 a1;go_enter Tryz.func107,Tryz.ntmps107;go_wp2_with (go_at_call 159;refine(o8 _ (by omega) (by have:=HB.out;omega) _).mono ?_;rintro e w1 ⟨rfl,rfl⟩;rw[HL.out]);obtain⟨r0,hr0⟩:∃r0:Int,(b0:Int)%8=r0:=⟨_,rfl⟩
 have q0:0<=r0:=by omega
 have q1:r0<8:=by omega
 rw[hr0];have Xf:=ah hr0;clear hr0;go_loopw [6,5] (λvi vr wr=>wr=w1/\((vi= .int .i64 1/\vr= .int .i32 r0)\/(vi= .int .i64 2/\vr= .int .i32 (r0*64+(b1:Int)%64)/\b1/64=2)\/(vi= .int .i64 3/\vr= .int .i32 ((r0*64+(b1:Int)%64)*64+(b2:Int)%64)/\b1/64=2/\b2/64=2)\/(vi= .int .i64 4/\vr= .int .i32 (((r0*64+(b1:Int)%64)*64+(b2:Int)%64)*64+(b3:Int)%64)/\b1/64=2/\b2/64=2/\b3/64=2))) (λvi _ _=>(4-RowKit.intOf vi).toNat);case atStart=>exact⟨rfl, .inl ⟨rfl,rfl⟩⟩
 case round=>
  obtain⟨rfl,⟨rfl,rfl⟩|⟨rfl,rfl,k1⟩|⟨rfl,rfl,k1,k2⟩|⟨rfl,rfl,k1,k2,k3⟩⟩:=hrel
  ·by_cases c1:b1/64=2
   ·have hc:(bits BinOp.and IntKind.u8 (b1:Int) 192 !=128)=false:=by rw[Xd.out];exact aP (λh=>h c1)
    have C1:=ah c1;clear c1;go_wp2_with fail;go_roundw;case rel=>exact⟨by first|rfl|trivial, .inr (.inl ⟨rfl,rfl,C1.out⟩)⟩
    case measure=>simp[RowKit.intOf]
   ·have hc:(bits BinOp.and IntKind.u8 (b1:Int) 192 !=128)=true:=by rw[Xd.out];exact aO c1
    have C1:=ah c1;clear c1;go_wp2_with fail;go_ret2;exact bZ (HF.out (.inr (.inl C1.out))) rfl
  ·have K1:=ah k1;clear k1;by_cases c2:b2/64=2
   ·have hc:(bits BinOp.and IntKind.u8 (b2:Int) 192 !=128)=false:=by rw[HC2.out];exact aP (λh=>h c2)
    have C2:=ah c2;clear c2;go_wp2_with fail;go_roundw;case rel=>exact⟨by first|rfl|trivial, .inr (.inr (.inl ⟨rfl,rfl,K1.out,C2.out⟩))⟩
    case measure=>simp[RowKit.intOf]
   ·have hc:(bits BinOp.and IntKind.u8 (b2:Int) 192 !=128)=true:=by rw[HC2.out];exact aO c2
    have C2:=ah c2;clear c2;go_wp2_with fail;go_ret2;exact bZ (HF.out (.inr (.inr (.inl C2.out)))) rfl
  ·have K1:=ah k1;clear k1;have K2:=ah k2;clear k2;by_cases c3:b3/64=2
   ·have hc:(bits BinOp.and IntKind.u8 (b3:Int) 192 !=128)=false:=by rw[HC3.out];exact aP (λh=>h c3)
    have C3:=ah c3;clear c3;go_wp2_with fail;go_roundw;case rel=>exact⟨by first|rfl|trivial, .inr (.inr (.inr (⟨rfl,rfl,K1.out,K2.out,C3.out⟩)))⟩
    case measure=>simp[RowKit.intOf]
   ·have hc:(bits BinOp.and IntKind.u8 (b3:Int) 192 !=128)=true:=by rw[HC3.out];exact aO c3
    have C3:=ah c3;clear c3;go_wp2_with fail;go_ret2;exact bZ (HF.out (.inr (.inr (.inr (.inl C3.out))))) rfl
  ·have K1:=ah k1;clear k1;have K2:=ah k2;clear k2;have K3:=ah k3;clear k3;obtain⟨rr,hrr⟩:∃rr:Int,(((r0*64+(b1:Int)%64)*64+(b2:Int)%64)*64+(b3:Int)%64)=rr:=⟨_,rfl⟩
   have HRR:=ah hrr;have hfull:rr=((b0%8*262144+b1%64*4096+b2%64*64+b3%64:Nat):Int):=by have:=Xf.out;omega
   have hub:0<=rr/\rr<=2097151:=by omega
   by_cases cw:65536<=rr/\rr<=1114111;·have HW:=ah (show jS rr=4 by unfold jS;rw[au ((jc _).2 (by omega)),aj (by omega),aj (by omega),aj (by omega)]);have HD:=ah (HG.out ⟨hk,K1.out,K2.out,K3.out,by omega⟩);have HFU:=ah hfull;clear hrr hfull cw hub;go_wp2_with (go_at_call 160;refine(gL _ _).mono ?_;rintro e w2 ⟨rfl,rfl⟩;rw[HRR.out,HW.out]);go_ret2;exact bZ HD.out (by rw[<-HFU.out,<-HRR.out];rfl)
   ·have hwne:jS rr≠4:=YL rr hub.1 hub.2 cw;have HD:=ah (HF.out (.inr (.inr (.inr (.inr (by omega))))));obtain⟨ww,VF⟩:∃ww,jS rr=ww:=⟨_,rfl⟩
    rw[VF]at hwne;have HW:=ah VF;have hb:(((ww:Nat):Int) !=4)=true:=by simp;omega
    clear hrr hfull cw hub VF;go_wp2_with (go_at_call 160;refine(gL _ _).mono ?_;rintro e w2 ⟨rfl,rfl⟩;rw[HRR.out,HW.out]);go_ret2;exact bZ HD.out rfl
theorem NH (l:List UInt8) (h0:l≠[]) (hz:l.length<=100000) (w:World):Calls Tryz.prog 107 #[.string ⟨l.toArray⟩] w λe w'=>e= .returned (.tuple #[.int .i32 (dec l).1, .int .i64 (dec l).2])/\w'=w:=by
 obtain⟨s,hs⟩:∃s:ByteArray,(⟨l.toArray⟩:ByteArray)=s:=⟨_,rfl⟩
 have hss:s.size=l.length:=size_mk l s hs;have hl:=List.length_pos_iff.2 h0;have key:Calls Tryz.prog 107 #[.string s] w (kJ s.size (bt l 0) (bt l 1) (bt l 2) (bt l 3) w):=by
  have b0:=qE l 0;have g:∀i (h:i<s.size),(s[i]'h).toNat=bt l i:=byte_at s l hs;have hs0:0<s.size:=by omega
  by_cases c1:bt l 0<128;·exact YG s hs0 _ _ _ _ (g 0 _) c1 w
  ·by_cases c2:bt l 0<192
   ·exact PE s hs0 _ _ _ _ (g 0 _) (by omega) w
   ·by_cases c3:bt l 0<224
    ·by_cases k:s.size<2
     ·exact VE s hs0 k _ _ _ _ (g 0 _) (by omega) c3 w
     ·exact YI s (by omega) (by omega) _ _ _ _ (g 0 _) (g 1 _) (qE l 1) (by omega) c3 w
    ·by_cases c4:bt l 0<240
     ·by_cases k:s.size<3
      ·exact VG s hs0 k _ _ _ _ (g 0 _) (by omega) c4 w
      ·exact YK s (by omega) (by omega) _ _ _ _ (g 0 _) (g 1 _) (g 2 _) (qE l 1) (qE l 2) (by omega) c4 w
     ·by_cases c5:bt l 0<248
      ·by_cases k:s.size<4
       ·exact VH s hs0 k _ _ _ _ (g 0 _) (by omega) c5 w
       ·exact YM s (by omega) (by omega) _ _ _ _ (g 0 _) (g 1 _) (g 2 _) (g 3 _) (qE l 1) (qE l 2) (qE l 3) (by omega) c5 w
      ·exact PE s hs0 _ _ _ _ (g 0 _) (by omega) w
 rw[hs];rw[hss]at key;exact key
end
section
open Folds (dec bn bL)
abbrev Mk:=Nat×Nat×Nat×Bool
def jd (m:Mk):List Value:=[.int .i64 m.1, .int .i64 m.2.1, .int .i32 m.2.2.1, .bool m.2.2.2]
def iq (l:List Mk):List Value:=l.flatMap jd
theorem NI (l x:List Mk):iq (l++x)=iq l++iq x:=by simp[iq]
theorem NJ (l:List Mk):(iq l).length=l.length*4:=by
 induction l with
 |nil=>rfl
 |cons a l ih=>show(jd a++iq l).length=_;rw[bV,ih];simp only[jd,bT,mh];omega
def mk4 (t:List UInt8):Nat->Nat->List Mk
 |0,_=>[]
 |n+1,e=>if e<t.length then(e,(dec (t.drop e)).2,(dec (t.drop e)).1,((dec (t.drop e)).2:Int)==1&&((dec (t.drop e)).1:Int)==65533)::mk4 t n (e+(dec (t.drop e)).2)else[]
def iw (t:List UInt8):List Mk:=mk4 t t.length 0
theorem PG (t:List UInt8):∀n e,(mk4 t n e).length<=n
 |0,_=>ay _
 |n+1,e=>by
  unfold mk4;split;·simp only[bT];have:=PG t n (e+(dec (t.drop e)).2);omega
  ·exact aL _
theorem Rw:(Tryz.prog.info? 108).map (λi=>(i.zero,i.size,i.bytes))=some (some (.agg #[.int .i64 0, .int .i64 0, .int .i32 0, .bool false]),4,24):=by kernel_rfl
theorem Ld (w:World) (m:Mk) (ty:TypeId):∀j u,(jd m)[j]? =some u->(w.alloc (.cells (jd m).toArray ty)).cell? ((⟨w.heap.size,0,none⟩:Addr).add j)=some u:=by intro j u hu;rw[iQ,bI,fu _ _ _ _ _ _ (jl w _),<-hu];simp
theorem Le (m:Mk):∀u∈jd m,u.oneCell'=true:=by intro u hu;simp[jd]at hu;rcases hu with rfl|rfl|rfl|rfl<;>rfl
structure ML (W:World) (v:Value) (acc:List Mk) (w:World):Prop where
 aN:Below W.heap.size W w
 own:w.ownsRow W.heap.size 108 4 v acc.length (iq acc)
theorem ML.grown {W:World} {v v':Value} {m:Nat} {acc:List Mk} {x:Mk} {w w':World} {o:Obj} (h:ML W v acc w)
 (ho:w'.ownsRow W.heap.size 108 4 v' m (iq acc++jd x)) (hg:(w.alloc o).grownBy w' v.ownBlock):ML W v' (acc++[x]) w':=by
 have hown:(w.alloc o).ownsRow W.heap.size 108 4 v acc.length (iq acc):=dX h.own;have hb:Below W.heap.size W (w.alloc o):=h.aN.alloc h.aN.size o;have hm:m=acc.length+1:=by have h1:=ho.1;rw[bV,NJ]at h1;simp only[jd,bT,mh]at h1;omega
 refine⟨hb.grown hg hb.size (λk hk=>(dO hown hk).1),?_⟩;rw[NI,bV,<-show m=acc.length+[x].length from hm];have:iq [x]=jd x:=by simp[iq]
 rw[this];exact ho
def GD (t:List UInt8) (W:World) (e:Ending) (w':World):Prop:=∃v,e= .returned v/\w'.ownsRow W.heap.size 108 4 v (iw t).length (iq (iw t))/\Below W.heap.size W w'
theorem ah0 {m e n:Nat} (h1:m<=e) (h2:e<=n) (h3:n<=100000):m+1<=maxLen/\(m+1)*24<=0x800000000000:=⟨by simp only[maxLen];omega,by omega⟩
theorem Lf (t:List UInt8) (W:World) (hn:t.length<=100000):Calls Tryz.prog 63 #[.string ⟨t.toArray⟩] W (GD t W):=by
 obtain⟨s,hs⟩:∃s:ByteArray,(⟨t.toArray⟩:ByteArray)=s:=⟨_,rfl⟩
 have hss:s.size=t.length:=size_mk t s hs;rw[hs];have HS:=ah hs;have BI:=ah hss;clear hs hss;obtain⟨i0,hI0,hz0,hz1,hz2⟩:=gW Rw;go_enter Tryz.func63,Tryz.ntmps63;go_wp2;go_loopw [3,4] (λvl vi wr=>∃(e n m c:Nat) (A:Option Addr) (acc:List Mk),vi= .int .i64 e/\vl= .slice A m c/\acc.length=m/\ML W (.slice A m c) acc wr/\e<=t.length/\t.length<n+e+1/\m<=e/\acc++mk4 t n e=iw t) (λ_ vi _=>t.length-(RowKit.intOf vi).toNat);case atStart=>exact⟨0,t.length,0,0,none,[],rfl,rfl,rfl,⟨aK _ _,⟨rfl, .inl ⟨rfl,rfl⟩⟩⟩,aL _,by omega,ay _,rfl⟩
 case round=>
  obtain⟨e,n,m,c,A,acc,rfl,rfl,hm,hML,he,hne,hme,hl⟩:=hrel;have HM:=ah hML;clear hML;have hss:=BI.out;by_cases hlt:e<s.size
  ·have hlt2:e<t.length:=by omega
   obtain⟨n',rfl⟩:∃n',n=n'+1:=⟨n-1,by omega⟩
   have hne2:t.drop e≠[]:=by intro c;rw[rP]at c;omega
   have hd1:=bn (t.drop e);have hd2:=bL (t.drop e) hne2;rw[gP]at hd2;unfold mk4 at hl;rw[au hlt2]at hl;have HDE:=ah (λw=>NH (t.drop e) hne2 (by rw[gP];omega) w);obtain⟨r,hr⟩:∃r,(dec (t.drop e)).1=r:=⟨_,rfl⟩
   obtain⟨wd,hwd⟩:∃wd,(dec (t.drop e)).2=wd:=⟨_,rfl⟩
   rw[hr,hwd]at HDE hl;rw[hwd]at hd1 hd2;obtain⟨ew,Rk⟩:∃ew,e+wd=ew:=⟨_,rfl⟩
   rw[Rk]at hl;have hx1:=Vd t e s HS.out;have hi0:(0:Int)<=e:=rQ e;have hi1:(e:Int)<=s.size:=Int.ofNat_le.2 (iG hlt);have hsa:∀W,(Instr.slice 9 (.string s) (some (.int .i64 (e:Int))) none none).run Tryz.prog W= .ok (.string ⟨(t.drop e).toArray⟩) W:=λW=>by rw[run_slice_string_from_if _ _ _ _ _ Tryz.underlying9,au ⟨hi0,hi1⟩,mg,hx1]
   have HLEN:=ah (ah0 hme he hn);obtain⟨bd,hbd⟩:∃bd,(((wd:Nat):Int)==1&&((r:Nat):Int)==65533)=bd:=⟨_,rfl⟩
   rw[hbd]at hl;obtain⟨m1,hm1⟩:∃m1,m+1=m1:=⟨_,rfl⟩
   have KEY:=ah (λ(A':Option Addr) (c':Nat) (w':World) (h:ML W (.slice A' m1 c') (acc++[(e,wd,r,bd)]) w')=>
    show(∃(e n m c:Nat) (A:Option Addr) (acc:List Mk),Value.int .i64 (ew:Int)= .int .i64 e/\Value.slice A' m1 c'= .slice A m c/\acc.length=m/\ML W (.slice A m c) acc w'/\e<=t.length/\t.length<n+e+1/\m<=e/\acc++mk4 t n e=iw t)/\t.length-(RowKit.intOf (.int .i64 (ew:Int))).toNat<t.length-(RowKit.intOf (.int .i64 (e:Int))).toNat from by refine⟨⟨ew,n',m1,c',A',acc++[(e,wd,r,bd)],rfl,rfl,by rw[List.length_append,hm,<-hm1];rfl,h,by omega,by omega,by omega,?_⟩,by simp[RowKit.intOf];omega⟩;rw[<-hl,iL];rfl)
   have HEW:=ah (show(e:Int)+(wd:Int)=(ew:Int)by omega);have YN:=ah hbd;have HMA:=ah hm;have HOWN:=ah (show wr.ownsRow W.heap.size 108 4 (.slice A m c) m (iq acc)by have:=HM.out.own;rwa [hm]at this);have hwz:wd<=4:=by rw[<-hwd];exact Folds.I9 _
   have HWZ:=ah (And.intro hwz hd1);clear hr hwd hbd hl hm hne hme hd1 hd2 hx1 hi0 hi1 hne2 Rk hwz;by_cases c1:wd=1
   ·subst c1;go_wp2_with (first
     |(go_at_call 107;refine(HDE.out _).mono ?_;rintro x wz ⟨rfl,rfl⟩)
     |(at_builtin;(refine rW _ rfl (.tmp 18) (.tmp 29) 105 rfl W.heap.size 108 i0 _ 4 24 Tryz.underlying105 hI0 hz0 hz1 hz2 rfl (by decide) (.slice A m c) m (iq acc) rfl (dX HOWN.out) ⟨_,0,none⟩ 1 1 (jd (e,1,r,((r:Nat):Int)==65533)) rfl rfl (Ld _ _ _) (Le _) (by decide) HLEN.out.1 HLEN.out.2 (iR HM.out.aN.size) _ rfl ?_);intro g cap wq ho hg hl hs))
    rw[show(e:Int)+1=(ew:Int)from HEW.out];have hb:(((r:Nat):Int)==65533)=bd:=YN.out;rw[hb]at ho;exact KEY.out _ _ _ (by rw[<-hm1];exact ML.grown HM.out ho hg)
   ·have c2:(((wd:Nat):Int)==1)=false:=by rw[dH];omega
    have hb:bd=false:=by rw[<-YN.out,c2];rfl
    go_wp2_with (first
     |(go_at_call 107;refine(HDE.out _).mono ?_;rintro x wz ⟨rfl,rfl⟩)
     |(at_builtin;(refine rW _ rfl (.tmp 18) (.tmp 29) 105 rfl W.heap.size 108 i0 _ 4 24 Tryz.underlying105 hI0 hz0 hz1 hz2 rfl (by decide) (.slice A m c) m (iq acc) rfl (dX HOWN.out) ⟨_,0,none⟩ 1 1 (jd (e,wd,r,false)) rfl rfl (Ld _ _ _) (Le _) (by decide) HLEN.out.1 HLEN.out.2 (iR HM.out.aN.size) _ rfl ?_);intro g cap wq ho hg hl hs))
    rw[HEW.out,show wrap64 (ew:Int)=(ew:Int)by have:=HEW.out;have:=HWZ.out;have:=BI.out;unfold wrap64;omega];rw[hb]at KEY;exact KEY.out _ _ _ (by rw[<-hm1];exact ML.grown HM.out ho hg)
  ·have hee:e=t.length:=by omega
   have hz:mk4 t n e=[]:=by
    subst hee;cases n with
    |zero=>rfl
    |succ n'=>show(if t.length<t.length then _ else _)=_;rw[aj (dA _)]
   rw[hz,ji]at hl;have HL:=ah hl;have HMA:=ah hm;clear hl hz hm hme hne he hee;go_wp2;go_ret;refine⟨_,rfl,?_,HM.out.aN⟩;rw[<-HL.out];exact HM.out.own
end
section
open Folds (dec bn bL)
theorem PI (t:List UInt8):∀n e,∀m∈mk4 t n e,m.1+m.2.1<=t.length/\1<=m.2.1/\rZ (m.2.2.1:Int)=true
 |0,_,m,h=>by cases h
 |n+1,e,m,h=>by
  unfold mk4 at h;by_cases c:e<t.length
  ·rw[au c]at h;rcases aR.1 h with rfl|h
   ·have hne:t.drop e≠[]:=by intro d;rw[rP]at d;omega
    have:=bL (t.drop e) hne;rw[gP]at this;exact⟨by dsimp only;omega,bn _,Yp _⟩
   ·exact PI t n _ m h
  ·rw[aj c]at h;cases h
theorem Ji (t:List UInt8):∀n e,∀m∈mk4 t n e,m.2.1<=4
 |0,_,m,h=>by cases h
 |n+1,e,m,h=>by
  unfold mk4 at h;by_cases c:e<t.length
  ·rw[au c]at h;rcases aR.1 h with rfl|h
   ·exact Folds.I9 _
   ·exact Ji t n _ m h
  ·rw[aj c]at h;cases h
def Bq:Mk:=(0,0,0,false)
theorem xO:∀(l:List Mk) (k:Nat),k<l.length->(iq l)[k*4]? =some (.int .i64 (l.getD k Bq).1)/\(iq l)[k*4+1]? =some (.int .i64 (l.getD k Bq).2.1)/\(iq l)[k*4+2]? =some (.int .i32 (l.getD k Bq).2.2.1)/\(iq l)[k*4+3]? =some (.bool (l.getD k Bq).2.2.2)
 |[],k,h=>absurd h (ko _)
 |a::l,0,_=>⟨rfl,rfl,rfl,rfl⟩
 |a::l,k+1,h=>by have:=xO l k (Nat.lt_of_succ_lt_succ h);rw[show(k+1)*4=k*4+1+1+1+1 by omega];exact this
theorem abT (a b:List UInt8):(⟨a.toArray⟩:ByteArray)++⟨b.toArray⟩=⟨(a++b).toArray⟩:=by apply ByteArray.ext;simp
