/- SearchReplaces, walked: search.Every, All, Is. -/
import Derived.Test.YtocaiijbhepnnaaGreatDoorGA
set_option maxRecDepth 100000
set_option maxHeartbeats 4000000
namespace Go.Proofs.YtocaiijbhepnnaaGreatDoor.searchReplaces
open Go.Shelf Go.RowKit Go.Lib Go.Proofs.YtocaiijbhepnnaaGreatDoor.Am
theorem D5:∀(l:List Left.Pl) (k:Nat) (p:Left.Pl),l[k]? =some p->(gP l)[k*3]? =some (.int .i64 p.1)/\(gP l)[k*3+1]? =some (.bool p.2.1)/\(gP l)[k*3+2]? =some (.string ⟨p.2.2.toArray⟩)
 |[],k,p,h=>by simp at h
 |q::l,0,p,h=>by simp at h;subst h;exact⟨rfl,rfl,rfl⟩
 |q::l,k+1,p,h=>by
  have ih:=D5 l k p (by simpa using h);have e:∀j,(gP (q::l))[(k+1)*3+j]? =(gP l)[k*3+j]? :=λj=>by show(Dl q++gP l)[(k+1)*3+j]? =_;rw[List.getElem?_append_right (by simp[Dl];omega)];congr 1;simp[Dl];omega
  exact⟨by have:=e 0;rw[dA,dA]at this;rw[this];exact ih.1,by rw[e 1];exact ih.2.1,by rw[e 2];exact ih.2.2⟩
theorem D6 {w:World} {base g n cap:Nat} {l:List Left.Pl} (h:w.ownsRow base 113 3 (.slice (some ⟨g,0,none⟩) n cap) n (gP l)) {k:Nat} {p:Left.Pl} (hk:l[k]? =some p):
 w.cell? ⟨g,k*3,none⟩=some (.int .i64 p.1)/\w.cell? ⟨g,k*3+1,none⟩=some (.bool p.2.1)/\w.cell? ⟨g,k*3+2,none⟩=some (.string ⟨p.2.2.toArray⟩):=by
 obtain⟨h0,h1,h2⟩:=D5 l k p hk;have c:=λj u hj=>h.cells (g:=g) rfl j u hj;have e:∀j,(⟨g,0,none⟩:Addr).add j=⟨g,j,none⟩:=λj=>by rw[iA,bL]
 refine⟨?_,?_,?_⟩;·have:=c _ _ h0;rwa [e]at this
 ·have:=c _ _ h1;rwa [e]at this
 ·have:=c _ _ h2;rwa [e]at this
structure EV (W:World) (t:List UInt8) (pl:List Left.Pl) (g N cap i:Nat) (acc:List (Nat×Nat)) (vo:Value) (w:World):Prop where
 aB:Below W.heap.size W w
 plc:w.ownsRow W.heap.size 113 3 (.slice (some ⟨g,0,none⟩) N cap) N (gP pl)
 out:w.ownsRow W.heap.size 33 2 vo acc.length (bR acc)
 len:acc.length<=i
 eq:acc++Left.every t (pl.drop i)=Left.every t pl
def jQ (l:List (Nat×Nat)) (W:World) (e:Ending) (w':World):Prop:=
 ∃v,e= .returned v/\Below W.heap.size W w'/\w'.ownsRow W.heap.size 33 2 v l.length (bR l)
theorem look_nil {p:Left.Pl} {r:List Left.Pl}:Left.look [] (p::r)=if p.2.1=true then some p.1 else none:=by unfold Left.look;rw[ak rfl]
theorem acM {rest:List UInt8} {p:Left.Pl} {r:List Left.Pl} (hr:rest≠[]) (h:Left.cut rest p.2.2=none):Left.look rest (p::r)=none:=by unfold Left.look;rw[aj hr,h]
theorem VL {rest nx:List UInt8} {p:Left.Pl} {r:List Left.Pl} (hr:rest≠[]) (h:Left.cut rest p.2.2=some nx) (hs:p.2.2=[]):Left.look rest (p::r)=none:=by unfold Left.look;rw[aj hr,h];exact ak hs
theorem acN {rest nx:List UInt8} {p:Left.Pl} {r:List Left.Pl} (hr:rest≠[]) (h:Left.cut rest p.2.2=some nx) (hs:p.2.2≠[]):Left.look rest (p::r)=Left.look nx r:=by rw[Left.look,aj hr,h];show(if p.2.2=[]then none else Left.look nx r)=Left.look nx r;rw[aj hs]
theorem drop_at {α:Type} {l:List α} {k:Nat} {p:α} (h:l[k]? =some p):l.drop k=p::l.drop (k+1):=by obtain⟨hk,rfl⟩:=nX.1 h;exact ny hk
theorem EV.below {W:World} {t:List UInt8} {pl:List Left.Pl} {g N cap i:Nat} {acc:List (Nat×Nat)} {vo:Value} {w w1:World} (h:EV W t pl g N cap i acc vo w) (hb:Below w.heap.size w w1):EV W t pl g N cap i acc vo w1:=
 ⟨h.aB.trans (hb.mono h.aB.size),(Fr.of_below (T:=λ_=>False) hb (ay _)).own h.plc (λ_ _=>id),(Fr.of_below (T:=λ_=>False) hb (ay _)).own h.out (λ_ _=>id),h.len,h.eq⟩
theorem EV.skip {W:World} {t:List UInt8} {pl:List Left.Pl} {g N cap k:Nat} {acc:List (Nat×Nat)} {vo:Value} {w:World} {p:Left.Pl} (h:EV W t pl g N cap k acc vo w) (hp:pl[k]? =some p) (hl:p.2.1=true->Left.look t (pl.drop k)=none):
 EV W t pl g N cap (k+1) acc vo w:=by
 refine⟨h.aB,h.plc,h.out,K8 h.len,?_⟩;rw[<-h.eq,drop_at hp];rw[drop_at hp]at hl;show _=acc++(if p.2.1=true then(match Left.look t (p::pl.drop (k+1))with|some b=>(p.1,b)::Left.every t (pl.drop (k+1))|none=>Left.every t (pl.drop (k+1)))else Left.every t (pl.drop (k+1)))
 split;·rename_i c;rw[hl c]
 ·rfl
theorem EV.hit {W:World} {t:List UInt8} {pl:List Left.Pl} {g N cap k b:Nat} {acc:List (Nat×Nat)} {vo v':Value} {w w3:World} {o:Obj} {a:Nat} {sh:List UInt8} (h:EV W t pl g N cap k acc vo w) (hp:pl[k]? =some (a,true,sh)) (hl:Left.look t (pl.drop k)=some b)
 (hg:(w.drew.alloc o).grownBy w3 vo.ownBlock) (hown:w3.ownsRow W.heap.size 33 2 v' (acc.length+1) (bR acc++[.int .i64 a, .int .i64 b])):EV W t pl g N cap (k+1) (acc++[(a,b)]) v' w3:=by
 have hf:=Zz hg;refine⟨⟨h.aB.os▸hf.os,h.aB.tape▸hf.tape,h.aB.output▸hf.output,aS h.aB.size hf.size,λj hj=> ?_⟩,hf.own h.plc ?_,?_,?_,?_⟩;·rw[hf.block j (bH hj h.aB.size) (λc=>by have:=(bB h.out c).1;omega)];exact h.aB.block j hj
 ·intro j hj c;obtain⟨_,_,cur,hcur⟩:=bB h.plc hj;obtain⟨_,_,arY,aeE⟩:=bB h.out c;rw[hcur]at aeE;cases aeE
 ·rw[uJ,bG];exact hown
 ·rw[bG];exact Gu h.len
 ·rw[<-h.eq,drop_at hp];rw[drop_at hp]at hl;show _=acc++(if true=true then(match Left.look t ((a,true,sh)::pl.drop (k+1))with|some b=>(a,b)::Left.every t (pl.drop (k+1))|none=>Left.every t (pl.drop (k+1)))else Left.every t (pl.drop (k+1)))
  rw[ak rfl];rw[hl];simp
theorem Ht {w:World} {b o:Nat} {v:Value} (h:w.cell? ⟨b,o,none⟩=some v) (x:Obj):(w.alloc x).cell? ⟨b,o,none⟩=some v:=by rw[((aF w.heap.size w).alloc (ay _) x).cell (p:=⟨b,o,none⟩) (dO h)];exact h
structure EB (W:World) (fo le wo:Bool) (w:World):Prop where
 aB:Below W.heap.size W w
 o:w.heap[W.heap.size]? =some (.cells #[.bool fo, .bool le, .bool wo] 28 (0,0))
theorem EB.go {W w w':World} {fo le wo:Bool} (h:EB W fo le wo w) (hb:Below w.heap.size w w'):EB W fo le wo w':=⟨h.aB.trans (hb.mono h.aB.size),bM hb h.o⟩
theorem EB.start (W:World) (fo le wo:Bool):EB W fo le wo (W.alloc (.cells #[.bool fo, .bool le, .bool wo] 28)):=⟨(aF _ W).alloc (ay _) _,cO W _⟩
theorem ZE (s:ByteArray) (t want:List UInt8) (pl:List Left.Pl) (fo le wo:Bool) (W:World) (ht:t≠[]) (ajt:pl≠[]) (hpn:pl.length<=100001) (hfo:fo=false->want=t)
 (hF:fo=true->∀w,Below W.heap.size W w->Calls Tryz.prog 69 #[.string ⟨t.toArray⟩] w λe w'=>e= .returned (.string ⟨want.toArray⟩)/\Below w.heap.size w w')
 (hP:∀w,Below W.heap.size W w->Calls Tryz.prog 70 #[.string s, .agg #[.bool fo, .bool le, .bool wo]] w (Hq pl w)):
 Calls Tryz.prog 16 #[.string s, .string ⟨t.toArray⟩, .agg #[.bool fo, .bool le, .bool wo]] W (jQ (Left.every want pl) W):=by
 have hte:t.isEmpty=false:=by cases t with|nil=>exact absurd rfl ht|cons a b=>rfl
 have HF:=ah hF;have HPC:=ah hP;have HPN:=ah ajt;have PN:=ah hpn;have HFO:=ah hfo;have HB0:=ah (EB.start W fo le wo);clear hF hP ajt hpn hfo ht;go_enter Tryz.func16,Tryz.ntmps16;go_wp2_with fail;go_step3;go_upto_if 20 with(fail)
 go_cut [7] (λq wx=>q= .string ⟨want.toArray⟩/\EB W fo le wo wx);case first=>
  cases fo;case false=>have HE:=ah (HFO.out rfl);clear HFO;go_wp2_with fail;go_meet;exact⟨by rw[HE.out],HB0.out⟩
  case true=>clear HFO;go_wp2_with fail;refine(HF.out trivial _ HB0.out.aB).mono ?_;rintro e w1 ⟨rfl,hb⟩;have HB1:=ah (HB0.out.go hb);clear hb;dsimp only;go_wp2_with fail;go_meet;exact⟨rfl,HB1.out⟩
 case rest=>
  obtain⟨rfl,hb⟩:=hcut;have HB:=ah hb;have y0:=(bA wc W.heap.size 0 _ _ _ hb.o).trans rfl;have y1:=(bA wc W.heap.size 1 _ _ _ hb.o).trans rfl;have y2:=(bA wc W.heap.size 2 _ _ _ hb.o).trans rfl;clear hb HB0;go_wp2_with fail;refine(HPC.out _ HB.out.aB).mono ?_;rintro e w1 ⟨v,rfl,hb1,hown1⟩;clear y0 y1 y2;obtain⟨N,hN⟩:∃N,pl.length=N:=⟨_,rfl⟩
  have hN0:0<N:=by have:=xM.2 HPN.out;omega
  have hNB:N<=100001:=by have:=PN.out;omega
  rw[hN]at hown1;obtain⟨g,cap,rfl,hg1,_⟩:=hown1.form hN0;have HB1:=ah hb1;clear hb1;have HO1:=ah hown1;clear hown1;have HN:=ah hN;clear hN;have HNB:=ah hNB;clear hNB;dsimp only;go_wp2;go_step3;rename_i K hK;refine hK _ _ ?_;go_wp2;go_loopw [28,9] (λi vo wr=>∃(k:Nat) (acc:List (Nat×Nat)),k<=N/\i= .int .i64 k/\EV W want pl g N cap k acc vo wr) (λi _ _=>N-(RowKit.intOf i).toNat);case atStart=>have hB:=HB1.out;have hO:=HO1.out;have h1:Below W.heap.size W w1:=HB.out.aB.trans (hB.mono HB.out.aB.size);exact⟨0,[],aH _,rfl,h1,sK hO (λj hj=>aS HB.out.aB.size (bB hO hj).1),⟨rfl, .inl ⟨rfl,rfl⟩⟩,ay _,rfl⟩
  case round=>
   obtain⟨k,acc,hk,rfl,hE⟩:=hrel;have HE:=ah hE;clear hE;by_cases hlt:k<N
   ·obtain⟨⟨a,may,sh⟩,hp⟩:∃p,pl[k]? =some p:=⟨pl[k]'(by rw[HN.out];exact hlt),aX _⟩
    obtain⟨c0,c1,c2⟩:=D6 HE.out.plc hp;have hk0:(0:Int)<=k:=by omega
    have hk1:(k:Int)<N:=by omega
    cases may;case false=>
     have Iz:=ah hp;clear hp;have hwk:wrap64 ((k:Int)+1)=((k+1:Nat):Int):=by have:=HNB.out;unfold wrap64;omega
     have jX:=ah hwk;clear hwk;go_wp2;exact⟨⟨k+1,acc,hlt,by first|rw[jX.out]|rfl,(HE.out.below ((Below.refl _ _).alloc (Nat.le_refl _) _)).skip Iz.out (λh=>absurd h Bool.false_ne_true)⟩,by first|(rw[jX.out];simp[RowKit.intOf];omega)|(simp[RowKit.intOf];omega)⟩
    case true=>
     go_wp2;obtain⟨w2,hw2⟩:∃w2,wr.alloc (.cells #[.int .i64 a, .bool true, .string ⟨sh.toArray⟩] 113)=w2:=⟨_,rfl⟩
     obtain⟨pb,hpb⟩:∃pb,wr.heap.size=pb:=⟨_,rfl⟩
     have hE2:EV W want pl g N cap k acc u9 w2:=by rw[<-hw2];exact HE.out.below ((aF _ _).alloc (ay _) _)
     have d0:w2.cell? ⟨pb,0,none⟩=some (.int .i64 a):=by rw[<-hw2,<-hpb,bA _ _ 0 _ _ _ (cO wr _)];rfl
     rw[hw2,hpb];have Iz:=ah hp;clear c0 c1 c2 hw2 hpb hp;have HE2:=ah hE2;clear hE2;have hNb:=HNB.out;have hwk:wrap64 ((k:Int)+1)=((k+1:Nat):Int):=by unfold wrap64;omega
     have jX:=ah hwk;clear hwk;go_hide hQ;go_loop [12,13,9] (λr jj v9=>v9=u9/\∃(j:Nat) (rest:List UInt8),k<=j/\j<=N/\r= .string ⟨rest.toArray⟩/\jj= .int .i64 j/\Left.look rest (pl.drop j)=Left.look want (pl.drop k)) (λ_ jj _=>N-(RowKit.intOf jj).toNat);case atStart=>exact⟨rfl,k,want,ay _,hk,rfl,rfl,rfl⟩
     case round=>
      obtain⟨rfl,j,rest,hkj,hj,rfl,rfl,aeF⟩:=hrel;have TP:=ah aeF;clear aeF;by_cases hjl:j<N
      ·obtain⟨⟨b,mj,sj⟩,hq⟩:∃p,pl[j]? =some p:=⟨pl[j]'(by rw[HN.out];exact hjl),aX _⟩
       obtain⟨c0,c1,c2⟩:=D6 HE2.out.plc hq;have hdj:=drop_at hq;have hj0:(0:Int)<=j:=by omega
       have hj1:(j:Int)<N:=by omega
       have HDJ:=ah hdj;clear hdj;clear hq;by_cases hr:rest=[]
       ·subst hr;cases mj;case false=>
         have hnone:Left.look want (pl.drop k)=none:=by rw[<-TP.out,HDJ.out,look_nil];rfl
         have HNO:=ah hnone;clear hnone;go_wp2;subst hQ;go_wp2;exact⟨⟨k+1,acc,hlt,by first|rw[jX.out]|rfl,HE2.out.skip Iz.out (λ_=>HNO.out)⟩,by first|(rw[jX.out];simp[RowKit.intOf];omega)|(simp[RowKit.intOf];omega)⟩
        case true=>
         have hsome:Left.look want (pl.drop k)=some b:=by rw[<-TP.out,HDJ.out,look_nil];rfl
         have WU:=ah hsome;clear hsome;have hal:acc.length<=100001:=by have:=HE2.out.len;omega
         obtain⟨i0,hi0,hz0,hz1,hz2⟩:=eD qw;have Oo:acc.length+1<=maxLen:=by simp only[maxLen];omega
         have hbase:W.heap.size<=w2.heap.size:=HE2.out.aB.size;have LD:=ah Oo;clear Oo;have Oq:=ah hbase;clear hbase;have hfr:(w2.drew.alloc (.cells #[.int .i64 a, .int .i64 b] 33)).ownsRow W.heap.size 33 2 _ acc.length (bR acc):=(Fr.alloc (λ_=>False) w2.drew _).own HE2.out.out (λ_ _=>id);have HFR:=ah hfr;clear hfr;have hca:=Ht (w:=w2) d0 (.cells #[.int .i64 a, .int .i64 b] 33);have hcb:=Ht (w:=w2) c0 (.cells #[.int .i64 a, .int .i64 b] 33);go_wp2;subst hQ;go_region_law ((refine step_append_lies _ (by rfl) (.tmp 51) (.tmp 60) 29 (by rfl) W.heap.size 33 i0 _ 2 16 Tryz.underlying29 hi0 hz0 hz1 hz2 rfl (by omega) _ acc.length (bR acc) (by rfl) HFR.out ⟨w2.heap.size,0,none⟩ 1 1 [.int .i64 a, .int .i64 b] (by rfl) (by rfl) (xW (cO w2.drew _)) (Zy _ _ rfl rfl) (by omega) LD.out (by omega) (aS Oq.out (dD (by simp))) _ rfl ?_;intro g3 IV w3 hown3 hgrow3 _ _));all_goals (
          have hE3:=HE2.out.hit Iz.out WU.out hgrow3 hown3;have HE3:=ah hE3;clear hE3 hown3 hgrow3)
         all_goals go_wp2
         all_goals exact⟨⟨k+1,acc++[(a,b)],hlt,by first|rw[jX.out]|rfl,HE3.out⟩,by first|(rw[jX.out];simp[RowKit.intOf];omega)|(simp[RowKit.intOf];omega)⟩
       ·have hre:rest.isEmpty=false:=by cases rest with|nil=>exact absurd rfl hr|cons a b=>rfl
        have HR:=ah hr;clear hr;cases hcut:Left.cut rest sj with
        |none=>
         have hnone:Left.look want (pl.drop k)=none:=by rw[<-TP.out,HDJ.out];exact acM HR.out hcut
         have HNO:=ah hnone;clear hnone;have LG:=ah hcut;clear hcut;go_wp2_with fail;refine(agl rest sj _ LG.out).mono ?_;rintro e w4 ⟨rfl,rfl⟩;dsimp only;go_wp2;subst hQ;go_wp2;exact⟨⟨k+1,acc,hlt,by first|rw[jX.out]|rfl,HE2.out.skip Iz.out (λ_=>HNO.out)⟩,by first|(rw[jX.out];simp[RowKit.intOf];omega)|(simp[RowKit.intOf];omega)⟩
        |some nx=>
         have LG:=ah hcut;clear hcut;by_cases hsj:sj=[]
         ·have hnone:Left.look want (pl.drop k)=none:=by rw[<-TP.out,HDJ.out];exact VL HR.out LG.out hsj
          have HNO:=ah hnone;clear hnone;have anR:sj.isEmpty=true:=by rw[hsj];rfl
          clear hsj;go_wp2_with fail;refine(TM rest sj nx _ LG.out).mono ?_;rintro e w4 ⟨rfl,rfl⟩;dsimp only;go_wp2;subst hQ;go_wp2;exact⟨⟨k+1,acc,hlt,by first|rw[jX.out]|rfl,HE2.out.skip Iz.out (λ_=>HNO.out)⟩,by first|(rw[jX.out];simp[RowKit.intOf];omega)|(simp[RowKit.intOf];omega)⟩
         ·have hgo:Left.look nx (pl.drop (j+1))=Left.look want (pl.drop k):=by rw[<-TP.out,HDJ.out];exact(acN HR.out LG.out hsj).symm
          have HGO:=ah hgo;clear hgo;have anR:sj.isEmpty=false:=by cases sj with|nil=>exact absurd rfl hsj|cons a b=>rfl
          have Qr:wrap64 ((j:Int)+1)=((j+1:Nat):Int):=by unfold wrap64;omega
          have HWJ:=ah Qr;clear Qr;clear hsj;go_wp2_with fail;refine(TM rest sj nx _ LG.out).mono ?_;rintro e w4 ⟨rfl,rfl⟩;dsimp only;go_wp2;go_round;case rel=>exact⟨rfl,j+1,nx,by omega,by omega,rfl,by first|rw[HWJ.out]|rfl,HGO.out⟩
          case measure=>first|(rw[HWJ.out];simp[RowKit.intOf];omega)|(simp[RowKit.intOf];omega)
      ·have hnone:Left.look want (pl.drop k)=none:=by rw[<-TP.out,kP (by rw[HN.out];omega)];unfold Left.look;rfl
       have HNO:=ah hnone;clear hnone;go_wp2;subst hQ;go_wp2;exact⟨⟨k+1,acc,hlt,by first|rw[jX.out]|rfl,HE2.out.skip Iz.out (λ_=>HNO.out)⟩,by first|(rw[jX.out];simp[RowKit.intOf];omega)|(simp[RowKit.intOf];omega)⟩
   ·have hkn:k=N:=by omega
    have hl:=HE.out.eq;rw[kP (by rw[HN.out,hkn];exact ay _)]at hl;have HL:=ah hl;clear hl;obtain⟨A9,c9,rfl,_⟩:=jo HE.out.out;obtain⟨m,hm⟩:∃m,acc.length=m:=⟨_,rfl⟩
    have HM:=ah hm;rw[hm]at HE⊢;clear hm hkn;go_wp2;rw[Exit.noGoto_ret];go_ret;refine⟨_,rfl,HE.out.aB,?_⟩;have h:=HE.out.out;have e:acc=Left.every want pl:=by rw[<-HL.out];simp[Left.every]
    rw[<-e];exact h
def qx (l:List (Nat×Nat)) (W:World) (e:Ending) (w':World):Prop:=∃A n c,e= .returned (.slice A n c)/\Ho w' A n l/\Below W.heap.size W w'
structure AL (w1:World) (v:Value) (acc:List (Nat×Nat)) (w:World):Prop where
 aB:Below w1.heap.size w1 w
 own:w.ownsRow w1.heap.size 33 2 v acc.length (bR acc)
theorem AL.below {w1 w w':World} {v:Value} {acc:List (Nat×Nat)} (h:AL w1 v acc w) (hb:Below w.heap.size w w'):AL w1 v acc w':=
 ⟨h.aB.trans (hb.mono h.aB.size),(Fr.of_below (T:=λ_=>False) hb (ay _)).own h.own (λ_ _=>id)⟩
theorem AL.grow {w1 w w':World} {v v':Value} {acc:List (Nat×Nat)} {a b:Nat} (h:AL w1 v acc w) (ho:w'.ownsRow w1.heap.size 33 2 v' (acc.length+1) (bR acc++[.int .i64 a, .int .i64 b])) (hg:w.grownBy w' v.ownBlock):AL w1 v' (acc++[(a,b)]) w':=by refine⟨h.aB.grown hg h.aB.size (λk hk=>(bB h.own hk).1),?_⟩;rw[uJ,bG];exact ho
theorem agq (s t:ByteArray) (L:List (Nat×Nat)) (fo le wo:Bool) (W:World) (hL:L.length<=1000)
 (hE:∀w,Below W.heap.size W w->Calls Tryz.prog 16 #[.string s, .string t, .agg #[.bool fo, .bool le, .bool wo]] w (jQ L w)):
 Calls Tryz.prog 15 #[.string s, .string t, .agg #[.bool fo, .bool le, .bool wo]] W (qx (Left.kT 0 L) W):=by
 have HE:=ah hE;clear hE;obtain⟨N,hN⟩:∃N,L.length=N:=⟨_,rfl⟩
 rw[hN]at hL;have HN:=ah hN;clear hN;obtain⟨i0,hi0,hz0,hz1,hz2⟩:=eD qw;go_enter Tryz.func15,Tryz.ntmps15;go_wp2_with (go_at_call 16;refine(HE.out _ ((aF _ W).alloc (ay _) _)).mono ?_;rintro e w1 ⟨v,rfl,hb1,hown1⟩;rw[HN.out]at hown1;obtain⟨A,c,rfl,_⟩:=jo hown1;have HB1:=ah (((aF _ W).alloc (ay _) _).trans (hb1.mono (dD (by simp))));have HR:=ah (Bw HN.out hown1 (by omega));clear hb1 hown1);go_loopw [16,7,8] (λi vo ve wr=>∃(k:Nat) (acc:List (Nat×Nat)) (en:Nat) (Ao:Option Addr) (m co:Nat),k<=N/\i= .int .i64 k/\vo= .slice Ao m co/\m=acc.length/\ve= .int .i64 en/\AL w1 (.slice Ao m co) acc wr/\m<=k/\acc++Left.kT en (L.drop k)=Left.kT 0 L) (λi _ _ _=>N-(RowKit.intOf i).toNat);case atStart=>exact⟨0,[],0,none,0,0,aH _,rfl,rfl,rfl,rfl,⟨aF _ _,⟨rfl, .inl ⟨rfl,rfl⟩⟩⟩,ay _,rfl⟩
 case round=>
  obtain⟨k,acc,en,Ao,m,co,hk,rfl,rfl,hm,rfl,hA,hmk,hl⟩:=hrel;have HA:=ah hA;clear hA;have HM:=ah hm;clear hm;by_cases hlt:k<N
  ·obtain⟨g,rfl,hg,hc⟩:=HR.out.at_ (by omega);obtain⟨c0,c1⟩:=hc k hlt;have hp:L[k]? =some (L.getD k Left.m0):=by rw[aM,aX (by rw[HN.out];exact hlt)];rfl
   obtain⟨⟨a,b⟩,hab⟩:∃p,L.getD k Left.m0=p:=⟨_,rfl⟩
   rw[hab]at c0 c1 hp;rw[drop_at hp]at hl;have hu:∀e (x:Nat×Nat) r,Left.kT e (x::r)=if e<=x.1 then x::Left.kT x.2 r else Left.kT e r:=λ_ _ _=>rfl
   rw[hu]at hl;dsimp only at hl;clear hu;have d0:=(HA.out.aB.cell (p:=⟨g,k*2,none⟩) hg).trans c0;have d1:=(HA.out.aB.cell (p:=⟨g,k*2+1,none⟩) hg).trans c1;clear c0 c1 hc hab hp hg;have hwk:wrap64 ((k:Int)+1)=((k+1:Nat):Int):=by unfold wrap64;omega
   have jX:=ah hwk;clear hwk;have hk0:(0:Int)<=k:=by omega
   have hk1:(k:Int)<N:=by omega
   have HA2:=ah ((HA.out.below ((aF _ wr).alloc (ay _) (.cells #[.int .i64 a, .int .i64 b] 33))));have HL:=ah hl;clear hl;by_cases hae:en<=a
   ·have hai:(en:Int)<=a:=by omega
    have hl:=HL.out;rw[ak hae]at hl;have Q9:=ah (show(acc++[(a,b)])++Left.kT b (L.drop (k+1))=Left.kT 0 L by rw[dR];exact hl);clear hl HL hae;have LD:=ah (show m+1<=maxLen by simp only[maxLen];omega);have Ra:=ah (show(m+1)*16<=0x800000000000 by omega);have WV:=ah (HA2.out.below ((aF _ _).alloc (ay _) (.cells #[.int .i64 a, .int .i64 b] 33)));have hof:∀v' w',w'.ownsRow w1.heap.size 33 2 v' (m+1) (bR acc++[.int .i64 a, .int .i64 b])->((wr.alloc (.cells #[.int .i64 a, .int .i64 b] 33)).alloc (.cells #[.int .i64 a, .int .i64 b] 33)).grownBy w' (Value.slice Ao m co).ownBlock->AL w1 v' (acc++[(a,b)]) w':=λv' w' h1 h2=>WV.out.grow (HM.out▸h1) h2;have HOF:=ah hof;have HOW:Hid (((wr.alloc (.cells #[.int .i64 a, .int .i64 b] 33)).alloc (.cells #[.int .i64 a, .int .i64 b] 33)).ownsRow w1.heap.size 33 2 (.slice Ao m co) m (bR acc)):=ah (HM.out.symm▸WV.out.own);have Mi:=ah WV.out.aB.size;have HBX:=ah (λ(v':Nat) (w':World) (h:((wr.alloc (.cells #[.int .i64 a, .int .i64 b] 33)).alloc (.cells #[.int .i64 a, .int .i64 b] 33)).grownBy w' (Value.slice Ao m co).ownBlock)=>show w'.heap[wr.heap.size]? =some (.cells #[.int .i64 a, .int .i64 b] 33 (0,0))from by
     rw[h.block _ (by rw[fK,fK];omega) (λc=>by have:=(bB HA.out.own c.symm).2.1;omega)];exact(qY _ _ _ (by simp)).trans (cO wr _))
    clear hof;go_wp2_with (at_builtin;(refine qW _ rfl (.tmp 24) (.tmp 26) 29 rfl w1.heap.size 33 i0 _ 2 16 Tryz.underlying29 hi0 hz0 hz1 hz2 rfl (by omega) _ m (bR acc) rfl HOW.out ⟨wr.heap.size+1,0,none⟩ 1 1 [.int .i64 a, .int .i64 b] rfl rfl (xW (by rw[<-fK wr];exact cO _ _)) (Zy _ _ rfl rfl) (by omega) LD.out Ra.out Mi.out _ rfl ?_);intro g3 IV w3 hown3 hgrow3 _ _;have Ml:=ah (HOF.out _ _ hown3 hgrow3);have hbx:w3.heap[wr.heap.size]? =some (.cells #[.int .i64 a, .int .i64 b] 33 (0,0)):=HBX.out 0 _ hgrow3;have x1:=(bA w3 wr.heap.size 1 _ _ _ hbx).trans rfl;clear hbx hown3 hgrow3);exact⟨⟨k+1,acc++[(a,b)],b,_,_,_,hlt,by first|rw[jX.out]|rfl,rfl,by rw[List.length_append,HM.out];rfl,rfl,Ml.out,Nat.succ_le_succ hmk,Q9.out⟩,by first|(rw[jX.out];simp[RowKit.intOf];omega)|(simp[RowKit.intOf];omega)⟩
   ·have hai:¬(en:Int)<=a:=by omega
    have hl:=HL.out;rw[aj hae]at hl;have Q9:=ah hl;clear hl HL hae;go_wp2;exact⟨⟨k+1,acc,en,Ao,m,co,hlt,by first|rw[jX.out]|rfl,rfl,HM.out,rfl,HA2.out,Nat.le_succ_of_le hmk,Q9.out⟩,by first|(rw[jX.out];simp[RowKit.intOf];omega)|(simp[RowKit.intOf];omega)⟩
  ·have hkn:k=N:=by omega
   rw[kP (by rw[HN.out,hkn];exact ay _)]at hl;have HL:=Lib.hid (show acc=Left.kT 0 L by rw[<-hl];simp[Left.kT]);have HMS:=ah (show m<=100000 by omega);clear hl hkn hmk;go_wp2;go_ret;exact⟨Ao,m,co,rfl,by rw[<-HL.out];exact Bw HM.out.symm (show wr.ownsRow w1.heap.size _ 2 (.slice Ao m co) m (bR acc)from HM.out.symm▸HA.out.own) HMS.out,HB1.out.trans (HA.out.aB.mono HB1.out.size)⟩
