/- SearchWide, walked: search.Every, All, Is. -/
import Derived.Test.YtocaiijbhepnnaaGreatDoorGA
set_option maxRecDepth 100000
set_option maxHeartbeats 4000000
namespace Go.Proofs.YtocaiijbhepnnaaGreatDoor.searchWide
open Go.Shelf Go.RowKit Go.Lib Go.Proofs.YtocaiijbhepnnaaGreatDoor.Am
theorem BU:∀(l:List Left.Pl) (k:Nat) (p:Left.Pl),l[k]? =some p->(fE l)[k*3]? =some (.int .i64 p.1)/\(fE l)[k*3+1]? =some (.bool p.2.1)/\(fE l)[k*3+2]? =some (.string ⟨p.2.2.toArray⟩)
 |[],k,p,h=>by simp at h
 |q::l,0,p,h=>by simp at h;subst h;exact⟨rfl,rfl,rfl⟩
 |q::l,k+1,p,h=>by
  have ih:=BU l k p (by simpa using h);have e:∀j,(fE (q::l))[(k+1)*3+j]? =(fE l)[k*3+j]? :=λj=>by show(Bb q++fE l)[(k+1)*3+j]? =_;rw[List.getElem?_append_right (by simp[Bb];omega)];congr 1;simp[Bb];omega
  exact⟨by have:=e 0;rw[cK,cK]at this;rw[this];exact ih.1,by rw[e 1];exact ih.2.1,by rw[e 2];exact ih.2.2⟩
theorem BX {w:World} {base g n cap:Nat} {l:List Left.Pl} (h:w.ownsRow base 113 3 (.slice (some ⟨g,0,none⟩) n cap) n (fE l)) {k:Nat} {p:Left.Pl} (hk:l[k]? =some p):
 w.cell? ⟨g,k*3,none⟩=some (.int .i64 p.1)/\w.cell? ⟨g,k*3+1,none⟩=some (.bool p.2.1)/\w.cell? ⟨g,k*3+2,none⟩=some (.string ⟨p.2.2.toArray⟩):=by
 obtain⟨h0,h1,h2⟩:=BU l k p hk;have c:=λj u hj=>h.cells (g:=g) rfl j u hj;have e:∀j,(⟨g,0,none⟩:Addr).add j=⟨g,j,none⟩:=λj=>by rw[iE,bL]
 refine⟨?_,?_,?_⟩;·have:=c _ _ h0;rwa [e]at this
 ·have:=c _ _ h1;rwa [e]at this
 ·have:=c _ _ h2;rwa [e]at this
structure EV (W:World) (t:List UInt8) (pl:List Left.Pl) (g N cap i:Nat) (acc:List (Nat×Nat)) (vo:Value) (w:World):Prop where
 aD:Below W.heap.size W w
 plc:w.ownsRow W.heap.size 113 3 (.slice (some ⟨g,0,none⟩) N cap) N (fE pl)
 out:w.ownsRow W.heap.size 33 2 vo acc.length (iV acc)
 len:acc.length<=i
 eq:acc++Left.every t (pl.drop i)=Left.every t pl
def jg (l:List (Nat×Nat)) (W:World) (e:Ending) (w':World):Prop:=
 ∃v,e= .returned v/\Below W.heap.size W w'/\w'.ownsRow W.heap.size 33 2 v l.length (iV l)
theorem look_nil {p:Left.Pl} {r:List Left.Pl}:Left.look [] (p::r)=if p.2.1=true then some p.1 else none:=by unfold Left.look;rw[au rfl]
theorem Zo {rest:List UInt8} {p:Left.Pl} {r:List Left.Pl} (hr:rest≠[]) (h:Left.cut rest p.2.2=none):Left.look rest (p::r)=none:=by unfold Left.look;rw[ak hr,h]
theorem Sq {rest nx:List UInt8} {p:Left.Pl} {r:List Left.Pl} (hr:rest≠[]) (h:Left.cut rest p.2.2=some nx) (hs:p.2.2=[]):Left.look rest (p::r)=none:=by unfold Left.look;rw[ak hr,h];exact au hs
theorem Zp {rest nx:List UInt8} {p:Left.Pl} {r:List Left.Pl} (hr:rest≠[]) (h:Left.cut rest p.2.2=some nx) (hs:p.2.2≠[]):Left.look rest (p::r)=Left.look nx r:=by rw[Left.look,ak hr,h];show(if p.2.2=[]then none else Left.look nx r)=Left.look nx r;rw[ak hs]
theorem drop_at {α:Type} {l:List α} {k:Nat} {p:α} (h:l[k]? =some p):l.drop k=p::l.drop (k+1):=by obtain⟨hk,rfl⟩:=mJ.1 h;exact nQ hk
theorem EV.below {W:World} {t:List UInt8} {pl:List Left.Pl} {g N cap i:Nat} {acc:List (Nat×Nat)} {vo:Value} {w w1:World} (h:EV W t pl g N cap i acc vo w) (hb:Below w.heap.size w w1):EV W t pl g N cap i acc vo w1:=
 ⟨h.aD.trans (hb.mono h.aD.size),(Fr.of_below (T:=λ_=>False) hb (ay _)).own h.plc (λ_ _=>id),(Fr.of_below (T:=λ_=>False) hb (ay _)).own h.out (λ_ _=>id),h.len,h.eq⟩
theorem EV.skip {W:World} {t:List UInt8} {pl:List Left.Pl} {g N cap k:Nat} {acc:List (Nat×Nat)} {vo:Value} {w:World} {p:Left.Pl} (h:EV W t pl g N cap k acc vo w) (hp:pl[k]? =some p) (hl:p.2.1=true->Left.look t (pl.drop k)=none):
 EV W t pl g N cap (k+1) acc vo w:=by
 refine⟨h.aD,h.plc,h.out,Jz h.len,?_⟩;rw[<-h.eq,drop_at hp];rw[drop_at hp]at hl;show _=acc++(if p.2.1=true then(match Left.look t (p::pl.drop (k+1))with|some b=>(p.1,b)::Left.every t (pl.drop (k+1))|none=>Left.every t (pl.drop (k+1)))else Left.every t (pl.drop (k+1)))
 split;·rename_i c;rw[hl c]
 ·rfl
theorem EV.hit {W:World} {t:List UInt8} {pl:List Left.Pl} {g N cap k b:Nat} {acc:List (Nat×Nat)} {vo v':Value} {w w3:World} {o:Obj} {a:Nat} {sh:List UInt8} (h:EV W t pl g N cap k acc vo w) (hp:pl[k]? =some (a,true,sh)) (hl:Left.look t (pl.drop k)=some b)
 (hg:(w.drew.alloc o).grownBy w3 vo.ownBlock) (hown:w3.ownsRow W.heap.size 33 2 v' (acc.length+1) (iV acc++[.int .i64 a, .int .i64 b])):EV W t pl g N cap (k+1) (acc++[(a,b)]) v' w3:=by
 have hf:=acT hg;refine⟨⟨h.aD.os▸hf.os,h.aD.tape▸hf.tape,h.aD.output▸hf.output,bn h.aD.size hf.size,λj hj=> ?_⟩,hf.own h.plc ?_,?_,?_,?_⟩;·rw[hf.block j (bC hj h.aD.size) (λc=>by have:=(bZ h.out c).1;omega)];exact h.aD.block j hj
 ·intro j hj c;obtain⟨_,_,cur,hcur⟩:=bZ h.plc hj;obtain⟨_,_,anc,aa3⟩:=bZ h.out c;rw[hcur]at aa3;cases aa3
 ·rw[JU,bT];exact hown
 ·rw[bT];exact Et h.len
 ·rw[<-h.eq,drop_at hp];rw[drop_at hp]at hl;show _=acc++(if true=true then(match Left.look t ((a,true,sh)::pl.drop (k+1))with|some b=>(a,b)::Left.every t (pl.drop (k+1))|none=>Left.every t (pl.drop (k+1)))else Left.every t (pl.drop (k+1)))
  rw[au rfl];rw[hl];simp
theorem Fb {w:World} {b o:Nat} {v:Value} (h:w.cell? ⟨b,o,none⟩=some v) (x:Obj):(w.alloc x).cell? ⟨b,o,none⟩=some v:=by rw[((aM w.heap.size w).alloc (ay _) x).cell (p:=⟨b,o,none⟩) (fQ h)];exact h
structure EB (W:World) (fo le wo:Bool) (w:World):Prop where
 aD:Below W.heap.size W w
 o:w.heap[W.heap.size]? =some (.cells #[.bool fo, .bool le, .bool wo] 28 (0,0))
theorem EB.go {W w w':World} {fo le wo:Bool} (h:EB W fo le wo w) (hb:Below w.heap.size w w'):EB W fo le wo w':=⟨h.aD.trans (hb.mono h.aD.size),bM hb h.o⟩
theorem EB.start (W:World) (fo le wo:Bool):EB W fo le wo (W.alloc (.cells #[.bool fo, .bool le, .bool wo] 28)):=⟨(aM _ W).alloc (ay _) _,dH W _⟩
theorem WA (s:ByteArray) (t want:List UInt8) (pl:List Left.Pl) (fo le wo:Bool) (W:World) (ht:t≠[]) (afS:pl≠[]) (hpn:pl.length<=100001) (hfo:fo=false->want=t)
 (hF:fo=true->∀w,Below W.heap.size W w->Calls Tryz.prog 69 #[.string ⟨t.toArray⟩] w λe w'=>e= .returned (.string ⟨want.toArray⟩)/\Below w.heap.size w w')
 (hP:∀w,Below W.heap.size W w->Calls Tryz.prog 70 #[.string s, .agg #[.bool fo, .bool le, .bool wo]] w (E8 pl w)):
 Calls Tryz.prog 16 #[.string s, .string ⟨t.toArray⟩, .agg #[.bool fo, .bool le, .bool wo]] W (jg (Left.every want pl) W):=by
 have hte:t.isEmpty=false:=by cases t with|nil=>exact absurd rfl ht|cons a b=>rfl
 have HF:=ah hF;have HPC:=ah hP;have HPN:=ah afS;have TA:=ah hpn;have HFO:=ah hfo;have HB0:=ah (EB.start W fo le wo);clear hF hP afS hpn hfo ht;go_enter Tryz.func16,Tryz.ntmps16;go_wp2_with fail;go_step3;go_upto_if 20 with(fail)
 go_cut [7] (λq wx=>q= .string ⟨want.toArray⟩/\EB W fo le wo wx);case first=>
  cases fo;case false=>have HE:=ah (HFO.out rfl);clear HFO;go_wp2_with fail;go_meet;exact⟨by rw[HE.out],HB0.out⟩
  case true=>clear HFO;go_wp2_with fail;refine(HF.out trivial _ HB0.out.aD).mono ?_;rintro e w1 ⟨rfl,hb⟩;have HB1:=ah (HB0.out.go hb);clear hb;dsimp only;go_wp2_with fail;go_meet;exact⟨rfl,HB1.out⟩
 case rest=>
  obtain⟨rfl,hb⟩:=hcut;have HB:=ah hb;have y0:=(bE wc W.heap.size 0 _ _ _ hb.o).trans rfl;have y1:=(bE wc W.heap.size 1 _ _ _ hb.o).trans rfl;have y2:=(bE wc W.heap.size 2 _ _ _ hb.o).trans rfl;clear hb HB0;go_wp2_with fail;refine(HPC.out _ HB.out.aD).mono ?_;rintro e w1 ⟨v,rfl,hb1,hown1⟩;clear y0 y1 y2;obtain⟨N,hN⟩:∃N,pl.length=N:=⟨_,rfl⟩
  have hN0:0<N:=by have:=List.length_pos_iff.2 HPN.out;omega
  have hNB:N<=100001:=by have:=TA.out;omega
  rw[hN]at hown1;obtain⟨g,cap,rfl,hg1,_⟩:=hown1.form hN0;have HB1:=ah hb1;clear hb1;have HO1:=ah hown1;clear hown1;have HN:=ah hN;clear hN;have HNB:=ah hNB;clear hNB;dsimp only;go_wp2;go_step3;rename_i K hK;refine hK _ _ ?_;go_wp2;go_loopw [28,9] (λi vo wr=>∃(k:Nat) (acc:List (Nat×Nat)),k<=N/\i= .int .i64 k/\EV W want pl g N cap k acc vo wr) (λi _ _=>N-(RowKit.intOf i).toNat);case atStart=>have hB:=HB1.out;have hO:=HO1.out;have h1:Below W.heap.size W w1:=HB.out.aD.trans (hB.mono HB.out.aD.size);exact⟨0,[],aL _,rfl,h1,EC hO (λj hj=>bn HB.out.aD.size (bZ hO hj).1),⟨rfl, .inl ⟨rfl,rfl⟩⟩,ay _,rfl⟩
  case round=>
   obtain⟨k,acc,hk,rfl,hE⟩:=hrel;have HE:=ah hE;clear hE;by_cases hlt:k<N
   ·obtain⟨⟨a,may,sh⟩,hp⟩:∃p,pl[k]? =some p:=⟨pl[k]'(by rw[HN.out];exact hlt),bJ _⟩
    obtain⟨c0,c1,c2⟩:=BX HE.out.plc hp;have hk0:(0:Int)<=k:=by omega
    have hk1:(k:Int)<N:=by omega
    cases may;case false=>
     have FR:=ah hp;clear hp;have hwk:wrap64 ((k:Int)+1)=((k+1:Nat):Int):=by have:=HNB.out;unfold wrap64;omega
     have iQ:=ah hwk;clear hwk;go_wp2;exact⟨⟨k+1,acc,hlt,by first|rw[iQ.out]|rfl,(HE.out.below ((Below.refl _ _).alloc (Nat.le_refl _) _)).skip FR.out (λh=>absurd h Bool.false_ne_true)⟩,by first|(rw[iQ.out];simp[RowKit.intOf];omega)|(simp[RowKit.intOf];omega)⟩
    case true=>
     go_wp2;obtain⟨w2,hw2⟩:∃w2,wr.alloc (.cells #[.int .i64 a, .bool true, .string ⟨sh.toArray⟩] 113)=w2:=⟨_,rfl⟩
     obtain⟨pb,hpb⟩:∃pb,wr.heap.size=pb:=⟨_,rfl⟩
     have hE2:EV W want pl g N cap k acc u9 w2:=by rw[<-hw2];exact HE.out.below ((aM _ _).alloc (ay _) _)
     have d0:w2.cell? ⟨pb,0,none⟩=some (.int .i64 a):=by rw[<-hw2,<-hpb,bE _ _ 0 _ _ _ (dH wr _)];rfl
     rw[hw2,hpb];have FR:=ah hp;clear c0 c1 c2 hw2 hpb hp;have HE2:=ah hE2;clear hE2;have hNb:=HNB.out;have hwk:wrap64 ((k:Int)+1)=((k+1:Nat):Int):=by unfold wrap64;omega
     have iQ:=ah hwk;clear hwk;go_hide hQ;go_loop [12,13,9] (λr jj v9=>v9=u9/\∃(j:Nat) (rest:List UInt8),k<=j/\j<=N/\r= .string ⟨rest.toArray⟩/\jj= .int .i64 j/\Left.look rest (pl.drop j)=Left.look want (pl.drop k)) (λ_ jj _=>N-(RowKit.intOf jj).toNat);case atStart=>exact⟨rfl,k,want,ay _,hk,rfl,rfl,rfl⟩
     case round=>
      obtain⟨rfl,j,rest,hkj,hj,rfl,rfl,aa4⟩:=hrel;have Qy:=ah aa4;clear aa4;by_cases hjl:j<N
      ·obtain⟨⟨b,mj,sj⟩,hq⟩:∃p,pl[j]? =some p:=⟨pl[j]'(by rw[HN.out];exact hjl),bJ _⟩
       obtain⟨c0,c1,c2⟩:=BX HE2.out.plc hq;have hdj:=drop_at hq;have hj0:(0:Int)<=j:=by omega
       have hj1:(j:Int)<N:=by omega
       have HDJ:=ah hdj;clear hdj;clear hq;by_cases hr:rest=[]
       ·subst hr;cases mj;case false=>
         have hnone:Left.look want (pl.drop k)=none:=by rw[<-Qy.out,HDJ.out,look_nil];rfl
         have HNO:=ah hnone;clear hnone;go_wp2;subst hQ;go_wp2;exact⟨⟨k+1,acc,hlt,by first|rw[iQ.out]|rfl,HE2.out.skip FR.out (λ_=>HNO.out)⟩,by first|(rw[iQ.out];simp[RowKit.intOf];omega)|(simp[RowKit.intOf];omega)⟩
        case true=>
         have hsome:Left.look want (pl.drop k)=some b:=by rw[<-Qy.out,HDJ.out,look_nil];rfl
         have TG:=ah hsome;clear hsome;have hal:acc.length<=100001:=by have:=HE2.out.len;omega
         obtain⟨i0,hi0,hz0,hz1,hz2⟩:=iA Ox;have afU:acc.length+1<=maxLen:=by simp only[maxLen];omega
         have hbase:W.heap.size<=w2.heap.size:=HE2.out.aD.size;have ajE:=ah afU;clear afU;have afV:=ah hbase;clear hbase;have hfr:(w2.drew.alloc (.cells #[.int .i64 a, .int .i64 b] 33)).ownsRow W.heap.size 33 2 _ acc.length (iV acc):=(Fr.alloc (λ_=>False) w2.drew _).own HE2.out.out (λ_ _=>id);have HFR:=ah hfr;clear hfr;have hca:=Fb (w:=w2) d0 (.cells #[.int .i64 a, .int .i64 b] 33);have hcb:=Fb (w:=w2) c0 (.cells #[.int .i64 a, .int .i64 b] 33);go_wp2;subst hQ;go_region_law ((refine step_append_lies _ (by rfl) (.tmp 51) (.tmp 60) 29 (by rfl) W.heap.size 33 i0 _ 2 16 Tryz.underlying29 hi0 hz0 hz1 hz2 rfl (by omega) _ acc.length (iV acc) (by rfl) HFR.out ⟨w2.heap.size,0,none⟩ 1 1 [.int .i64 a, .int .i64 b] (by rfl) (by rfl) (Dg (dH w2.drew _)) (ajx _ _ rfl rfl) (by omega) ajE.out (by omega) (bn afV.out (dN (by simp))) _ rfl ?_;intro g3 Mi w3 hown3 hgrow3 _ _));all_goals (
          have hE3:=HE2.out.hit FR.out TG.out hgrow3 hown3;have HE3:=ah hE3;clear hE3 hown3 hgrow3)
         all_goals go_wp2
         all_goals exact⟨⟨k+1,acc++[(a,b)],hlt,by first|rw[iQ.out]|rfl,HE3.out⟩,by first|(rw[iQ.out];simp[RowKit.intOf];omega)|(simp[RowKit.intOf];omega)⟩
       ·have hre:rest.isEmpty=false:=by cases rest with|nil=>exact absurd rfl hr|cons a b=>rfl
        have HR:=ah hr;clear hr;cases hcut:Left.cut rest sj with
        |none=>
         have hnone:Left.look want (pl.drop k)=none:=by rw[<-Qy.out,HDJ.out];exact Zo HR.out hcut
         have HNO:=ah hnone;clear hnone;have JY:=ah hcut;clear hcut;go_wp2_with fail;refine(acR rest sj _ JY.out).mono ?_;rintro e w4 ⟨rfl,rfl⟩;dsimp only;go_wp2;subst hQ;go_wp2;exact⟨⟨k+1,acc,hlt,by first|rw[iQ.out]|rfl,HE2.out.skip FR.out (λ_=>HNO.out)⟩,by first|(rw[iQ.out];simp[RowKit.intOf];omega)|(simp[RowKit.intOf];omega)⟩
        |some nx=>
         have JY:=ah hcut;clear hcut;by_cases hsj:sj=[]
         ·have hnone:Left.look want (pl.drop k)=none:=by rw[<-Qy.out,HDJ.out];exact Sq HR.out JY.out hsj
          have HNO:=ah hnone;clear hnone;have ajF:sj.isEmpty=true:=by rw[hsj];rfl
          clear hsj;go_wp2_with fail;refine(Qw rest sj nx _ JY.out).mono ?_;rintro e w4 ⟨rfl,rfl⟩;dsimp only;go_wp2;subst hQ;go_wp2;exact⟨⟨k+1,acc,hlt,by first|rw[iQ.out]|rfl,HE2.out.skip FR.out (λ_=>HNO.out)⟩,by first|(rw[iQ.out];simp[RowKit.intOf];omega)|(simp[RowKit.intOf];omega)⟩
         ·have hgo:Left.look nx (pl.drop (j+1))=Left.look want (pl.drop k):=by rw[<-Qy.out,HDJ.out];exact(Zp HR.out JY.out hsj).symm
          have HGO:=ah hgo;clear hgo;have ajF:sj.isEmpty=false:=by cases sj with|nil=>exact absurd rfl hsj|cons a b=>rfl
          have YD:wrap64 ((j:Int)+1)=((j+1:Nat):Int):=by unfold wrap64;omega
          have HWJ:=ah YD;clear YD;clear hsj;go_wp2_with fail;refine(Qw rest sj nx _ JY.out).mono ?_;rintro e w4 ⟨rfl,rfl⟩;dsimp only;go_wp2;go_round;case rel=>exact⟨rfl,j+1,nx,by omega,by omega,rfl,by first|rw[HWJ.out]|rfl,HGO.out⟩
          case measure=>first|(rw[HWJ.out];simp[RowKit.intOf];omega)|(simp[RowKit.intOf];omega)
      ·have hnone:Left.look want (pl.drop k)=none:=by rw[<-Qy.out,xg (by rw[HN.out];omega)];unfold Left.look;rfl
       have HNO:=ah hnone;clear hnone;go_wp2;subst hQ;go_wp2;exact⟨⟨k+1,acc,hlt,by first|rw[iQ.out]|rfl,HE2.out.skip FR.out (λ_=>HNO.out)⟩,by first|(rw[iQ.out];simp[RowKit.intOf];omega)|(simp[RowKit.intOf];omega)⟩
   ·have hkn:k=N:=by omega
    have hl:=HE.out.eq;rw[xg (by rw[HN.out,hkn];exact ay _)]at hl;have HL:=ah hl;clear hl;obtain⟨A9,c9,rfl,_⟩:=jf HE.out.out;obtain⟨m,hm⟩:∃m,acc.length=m:=⟨_,rfl⟩
    have HM:=ah hm;rw[hm]at HE⊢;clear hm hkn;go_wp2;rw[Exit.noGoto_ret];go_ret;refine⟨_,rfl,HE.out.aD,?_⟩;have h:=HE.out.out;have e:acc=Left.every want pl:=by rw[<-HL.out];simp[Left.every]
    rw[<-e];exact h
def Mj (l:List (Nat×Nat)) (a b:Nat) (W:World) (e:Ending) (w':World):Prop:=(∃i,e= .returned (.int .i64 i)/\decide (0<=i)=decide ((a,b)∈l))/\Below W.heap.size W w'
structure IX (W:World) (a b:Nat) (w:World):Prop where
 aD:Below W.heap.size W w
 box:w.heap[W.heap.size]? =some (.cells #[.int .i64 a, .int .i64 b] 33 (0,0))
theorem IX.drewN {W w:World} {a b:Nat} (h:IX W a b w) (n:Nat):IX W a b (w.drewN n):=⟨⟨h.aD.os,h.aD.tape,h.aD.output,h.aD.size,h.aD.block⟩,h.box⟩
theorem Sr (l:List (Nat×Nat)) (a b:Nat) (A:Option Addr) (n c:Nat) (W:World) (hR:Cr W A n l):
 Calls Tryz.prog 130 #[.slice A n c, .agg #[.int .i64 a, .int .i64 b]] W (Mj l a b W):=by
 have hsm:=hR.small;have HR:=ah hR;clear hR;go_enter Tryz.func130,Tryz.ntmps130;go_wp2;go_loopw [8] (λi wr=>∃k:Nat,k<=n/\i= .int .i64 k/\(∀j,j<k->l.getD j Left.m0≠(a,b))/\IX W a b wr) (λi _=>n-(RowKit.intOf i).toNat);case atStart=>exact⟨0,aL _,rfl,λj hj=>by omega,(aM _ W).alloc (ay _) _,dH W _⟩
 case round=>
  obtain⟨k,hk,rfl,hlo,hI⟩:=hrel;have sP:=ah hlo;have HI:=ah hI;clear hlo hI;have b0:=(bE wr W.heap.size 0 _ _ _ HI.out.box).trans rfl;have b1:=(bE wr W.heap.size 1 _ _ _ HI.out.box).trans rfl;by_cases hlt:k<n
  ·obtain⟨g,rfl,hg,hc⟩:=HR.out.at_ (by omega);obtain⟨c0,c1⟩:=hc k hlt;obtain⟨⟨x,y⟩,hxy⟩:∃p,l.getD k Left.m0=p:=⟨_,rfl⟩
   rw[hxy]at c0 c1;have d0:=(HI.out.aD.cell (p:=⟨g,k*2,none⟩) hg).trans c0;have d1:=(HI.out.aD.cell (p:=⟨g,k*2+1,none⟩) hg).trans c1;clear c0 c1 hc hg;have HXY:=ah hxy;clear hxy;have hk0:(0:Int)<=k:=by omega
   have hk1:(k:Int)<n:=by omega
   have HID:=ah HI.out.drewN;have hnext:(x,y)≠(a,b)->∀j,j<k+1->l.getD j Left.m0≠(a,b):=λh j hj=>by
    rcases aN j k with c|c;·exact sP.out j c
    ·obtain rfl:j=k:=by omega
     rw[HXY.out];exact h
   have XT:=ah hnext;clear hnext;have hwk:wrap64 ((k:Int)+1)=((k+1:Nat):Int):=by unfold wrap64;omega
   have iQ:=ah hwk;clear hwk;by_cases hx:a=x
   ·subst hx;by_cases hy:b=y
    ·subst hy;go_wp2;go_quiet (fail);go_wp2;go_ret;refine⟨⟨_,rfl,?_⟩,(HID.out _).aD⟩;have hm:(a,b)∈l:=by rw[<-HXY.out,aU,bJ (by rw[HR.out.len];exact hlt)];exact mK _
     rw[bg hm];exact bg (kF k)
    ·have hyi:¬(b:Int)=y:=by omega
     have hyb:((b:Int)==(y:Int))=false:=iw.2 hyi;have HNE:=ah (show(a,y)≠(a,b)from λh=>hy (by injection h with _ h;exact h.symm));go_wp2;go_quiet (fail);go_wp2;exact⟨⟨k+1,hlt,by first|rw[iQ.out]|rfl,XT.out HNE.out,HID.out _⟩,by first|(rw[iQ.out];simp[RowKit.intOf];omega)|(simp[RowKit.intOf];omega)⟩
   ·have hxi:¬(a:Int)=x:=by omega
    have hxb:((a:Int)==(x:Int))=false:=iw.2 hxi;have HNE:=ah (show(x,y)≠(a,b)from λh=>hx (by injection h with h _;exact h.symm));go_wp2;go_quiet (fail);go_wp2;exact⟨⟨k+1,hlt,by first|rw[iQ.out]|rfl,XT.out HNE.out,HID.out _⟩,by first|(rw[iQ.out];simp[RowKit.intOf];omega)|(simp[RowKit.intOf];omega)⟩
  ·obtain rfl:k=n:=by omega
   have hm:¬(a,b)∈l:=λh=>by obtain⟨j,hj,he⟩:=rJ.1 h;exact sP.out j (by rw[<-HR.out.len];exact hj) (by rw[aU,bJ hj];exact he)
   have HM:=ah hm;clear hm;go_wp2;go_ret;exact⟨⟨_,rfl,by rw[bK HM.out];rfl⟩,HI.out.aD⟩
theorem JZ (l:List (Nat×Nat)) (a b:Nat) (A:Option Addr) (n c:Nat) (W:World) (hR:Cr W A n l):
 Calls Tryz.prog 80 #[.slice A n c, .agg #[.int .i64 a, .int .i64 b]] W λe w'=>e= .returned (.bool (decide ((a,b)∈l)))/\Below W.heap.size W w':=by
 have hb0:Below W.heap.size W (W.alloc (.cells #[.int .i64 a, .int .i64 b] 33)):=(aM _ W).alloc (ay _) _;have H:=ah (Sr l a b A n c _ (hR.below hb0));have HB0:=ah hb0;obtain⟨q,hq⟩:∃q,decide ((a,b)∈l)=q:=⟨_,rfl⟩
 unfold Mj at H;rw[hq]at H;rw[hq];clear hq hb0 hR;go_enter Tryz.func80,Tryz.ntmps80;go_wp2_with (go_at_call 130;refine H.out.mono ?_;rintro e w1 ⟨⟨i,rfl,hi⟩,hb⟩;have HB:=ah hb;have HII:=ah hi;clear hb hi);go_ret;refine⟨?_,HB0.out.trans (HB.out.mono (by simp))⟩;rw[<-HII.out];rfl
theorem afW (s t:ByteArray) (L:List (Nat×Nat)) (fo le wo:Bool) (a b:Nat) (W:World) (hL:L.length<=1000)
 (hE:∀w,Below W.heap.size W w->Calls Tryz.prog 16 #[.string s, .string t, .agg #[.bool fo, .bool le, .bool wo]] w (jg L w)):
 Calls Tryz.prog 25 #[.string s, .string t, .agg #[.bool fo, .bool le, .bool wo], .int .i64 a, .int .i64 b] W λe w'=>e= .returned (.bool (decide ((a,b)∈L)))/\Below W.heap.size W w':=by
 have HE:=ah hE;clear hE;have HL:=ah hL;clear hL;go_enter Tryz.func25,Tryz.ntmps25;go_wp2_with (first|(go_at_call 16;refine(HE.out _ ((aM _ W).alloc (ay _) _)).mono ?_;rintro e w1 ⟨v,rfl,hb1,hown1⟩;obtain⟨A,c,rfl,_⟩:=jf hown1;have HB1:=ah (((aM _ W).alloc (ay _) _).trans (hb1.mono (dN (by simp))));have HR:=ah (uD rfl hown1 (bn HL.out (by decide)));clear hb1 hown1)|(go_at_call 80;refine(JZ L a b _ _ _ _ HR.out).mono ?_;rintro e w2 ⟨rfl,hb⟩;have HB2:=ah (HB1.out.trans (hb.mono HB1.out.size));clear hb));go_ret;exact⟨rfl,HB2.out⟩
