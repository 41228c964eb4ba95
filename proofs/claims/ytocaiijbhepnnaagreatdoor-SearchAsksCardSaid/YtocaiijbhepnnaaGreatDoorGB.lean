/- SearchAsks, walked: search.Every, All, Is. -/
import Derived.Test.YtocaiijbhepnnaaGreatDoorGA
import Derived.Deep.AppendLies
set_option maxRecDepth 100000
set_option maxHeartbeats 4000000
namespace Go.Proofs.YtocaiijbhepnnaaGreatDoor.searchAsks
open Go.Shelf Go.RowKit Go.Lib Go.Proofs.YtocaiijbhepnnaaGreatDoor.Am
theorem Dj:∀(l:List Left.Pl) (k:Nat) (p:Left.Pl),l[k]? =some p→(gH l)[k*3]? =some (.int .i64 p.1)∧(gH l)[k*3+1]? =some (.bool p.2.1)∧(gH l)[k*3+2]? =some (.string ⟨p.2.2.toArray⟩)
 |[],k,p,h=>by simp at h
 |q::l,0,p,h=>by simp at h;subst h;exact⟨rfl,rfl,rfl⟩
 |q::l,k+1,p,h=>by
  have ih:=Dj l k p (by simpa using h);have e:∀j,(gH (q::l))[(k+1)*3+j]? =(gH l)[k*3+j]? :=fun j=>by show(Cq q++gH l)[(k+1)*3+j]? =_;rw[List.getElem?_append_right (by simp[Cq];omega)];congr 1;simp[Cq];omega
  exact⟨by have:=e 0;rw[dh,dh]at this;rw[this];exact ih.1,by rw[e 1];exact ih.2.1,by rw[e 2];exact ih.2.2⟩
theorem Dk {w:World} {base g n cap:Nat} {l:List Left.Pl} (h:w.ownsRow base 113 3 (.slice (some ⟨g,0,none⟩) n cap) n (gH l)) {k:Nat} {p:Left.Pl} (hk:l[k]? =some p):
 w.cell? ⟨g,k*3,none⟩=some (.int .i64 p.1)∧w.cell? ⟨g,k*3+1,none⟩=some (.bool p.2.1)∧w.cell? ⟨g,k*3+2,none⟩=some (.string ⟨p.2.2.toArray⟩):=by
 obtain⟨h0,h1,h2⟩:=Dj l k p hk;have c:=fun j u hj=>h.cells (g:=g) rfl j u hj;have e:∀j,(⟨g,0,none⟩:Addr).add j=⟨g,j,none⟩:=fun j=>by rw[gX,bQ]
 refine⟨?_,?_,?_⟩;·have:=c _ _ h0;rwa [e]at this
 ·have:=c _ _ h1;rwa [e]at this
 ·have:=c _ _ h2;rwa [e]at this
structure EV (W:World) (t:List UInt8) (pl:List Left.Pl) (g N cap i:Nat) (acc:List (Nat×Nat)) (vo:Value) (w:World):Prop where
 aB:Below W.heap.size W w
 plc:w.ownsRow W.heap.size 113 3 (.slice (some ⟨g,0,none⟩) N cap) N (gH pl)
 out:w.ownsRow W.heap.size 33 2 vo acc.length (eX acc)
 len:acc.length≤i
 eq:acc++Left.every t (pl.drop i)=Left.every t pl
def fQ (l:List (Nat×Nat)) (W:World) (e:Ending) (w':World):Prop:=
 ∃v,e= .returned v∧Below W.heap.size W w'∧w'.ownsRow W.heap.size 33 2 v l.length (eX l)
theorem look_nil {p:Left.Pl} {r:List Left.Pl}:Left.look [] (p::r)=if p.2.1=true then some p.1 else none:=by unfold Left.look;rw[ak rfl]
theorem abE {rest:List UInt8} {p:Left.Pl} {r:List Left.Pl} (hr:rest≠[]) (h:Left.cut rest p.2.2=none):Left.look rest (p::r)=none:=by unfold Left.look;rw[aj hr,h]
theorem UW {rest nx:List UInt8} {p:Left.Pl} {r:List Left.Pl} (hr:rest≠[]) (h:Left.cut rest p.2.2=some nx) (hs:p.2.2=[]):Left.look rest (p::r)=none:=by unfold Left.look;rw[aj hr,h];exact ak hs
theorem abF {rest nx:List UInt8} {p:Left.Pl} {r:List Left.Pl} (hr:rest≠[]) (h:Left.cut rest p.2.2=some nx) (hs:p.2.2≠[]):Left.look rest (p::r)=Left.look nx r:=by rw[Left.look,aj hr,h];show(if p.2.2=[]then none else Left.look nx r)=Left.look nx r;rw[aj hs]
theorem drop_at {α:Type} {l:List α} {k:Nat} {p:α} (h:l[k]? =some p):l.drop k=p::l.drop (k+1):=by obtain⟨hk,rfl⟩:=ny.1 h;exact nA hk
theorem EV.below {W:World} {t:List UInt8} {pl:List Left.Pl} {g N cap i:Nat} {acc:List (Nat×Nat)} {vo:Value} {w w1:World} (h:EV W t pl g N cap i acc vo w) (hb:Below w.heap.size w w1):EV W t pl g N cap i acc vo w1:=
 ⟨h.aB.trans (hb.mono h.aB.size),(Fr.of_below (T:=fun _=>False) hb (ay _)).own h.plc (fun _ _=>id),(Fr.of_below (T:=fun _=>False) hb (ay _)).own h.out (fun _ _=>id),h.len,h.eq⟩
theorem EV.skip {W:World} {t:List UInt8} {pl:List Left.Pl} {g N cap k:Nat} {acc:List (Nat×Nat)} {vo:Value} {w:World} {p:Left.Pl} (h:EV W t pl g N cap k acc vo w) (hp:pl[k]? =some p) (hl:p.2.1=true→Left.look t (pl.drop k)=none):
 EV W t pl g N cap (k+1) acc vo w:=by
 refine⟨h.aB,h.plc,h.out,Ku h.len,?_⟩;rw[←h.eq,drop_at hp];rw[drop_at hp]at hl;show _=acc++(if p.2.1=true then(match Left.look t (p::pl.drop (k+1))with|some b=>(p.1,b)::Left.every t (pl.drop (k+1))|none=>Left.every t (pl.drop (k+1)))else Left.every t (pl.drop (k+1)))
 split;·rename_i c;rw[hl c]
 ·rfl
theorem EV.hit {W:World} {t:List UInt8} {pl:List Left.Pl} {g N cap k b:Nat} {acc:List (Nat×Nat)} {vo v':Value} {w w3:World} {o:Obj} {a:Nat} {sh:List UInt8} (h:EV W t pl g N cap k acc vo w) (hp:pl[k]? =some (a,true,sh)) (hl:Left.look t (pl.drop k)=some b)
 (hg:(w.drew.alloc o).grownBy w3 vo.ownBlock) (hown:w3.ownsRow W.heap.size 33 2 v' (acc.length+1) (eX acc++[.int .i64 a, .int .i64 b])):EV W t pl g N cap (k+1) (acc++[(a,b)]) v' w3:=by
 have hf:=YE hg;refine⟨⟨h.aB.os▸hf.os,h.aB.tape▸hf.tape,h.aB.output▸hf.output,aX h.aB.size hf.size,fun j hj=> ?_⟩,hf.own h.plc ?_,?_,?_,?_⟩;·rw[hf.block j (bM hj h.aB.size) (fun c=>by have:=(bL h.out c).1;omega)];exact h.aB.block j hj
 ·intro j hj c;obtain⟨_,_,cur,hcur⟩:=bL h.plc hj;obtain⟨_,_,aqL,adA⟩:=bL h.out c;rw[hcur]at adA;cases adA
 ·rw[Av,bB];exact hown
 ·rw[bB];exact FU h.len
 ·rw[←h.eq,drop_at hp];rw[drop_at hp]at hl;show _=acc++(if true=true then(match Left.look t ((a,true,sh)::pl.drop (k+1))with|some b=>(a,b)::Left.every t (pl.drop (k+1))|none=>Left.every t (pl.drop (k+1)))else Left.every t (pl.drop (k+1)))
  rw[ak rfl];rw[hl];simp
theorem Gt {w:World} {b o:Nat} {v:Value} (h:w.cell? ⟨b,o,none⟩=some v) (x:Obj):(w.alloc x).cell? ⟨b,o,none⟩=some v:=by rw[((aG w.heap.size w).alloc (ay _) x).cell (p:=⟨b,o,none⟩) (dI h)];exact h
structure EB (W:World) (fo le wo:Bool) (w:World):Prop where
 aB:Below W.heap.size W w
 o:w.heap[W.heap.size]? =some (.cells #[.bool fo, .bool le, .bool wo] 28 (0,0))
theorem EB.go {W w w':World} {fo le wo:Bool} (h:EB W fo le wo w) (hb:Below w.heap.size w w'):EB W fo le wo w':=⟨h.aB.trans (hb.mono h.aB.size),bI hb h.o⟩
theorem EB.start (W:World) (fo le wo:Bool):EB W fo le wo (W.alloc (.cells #[.bool fo, .bool le, .bool wo] 28)):=⟨(aG _ W).alloc (ay _) _,dw W _⟩
theorem YG (s:ByteArray) (t want:List UInt8) (pl:List Left.Pl) (fo le wo:Bool) (W:World) (ht:t≠[]) (aix:pl≠[]) (hpn:pl.length≤100001) (hfo:fo=false→want=t)
 (hF:fo=true→∀w,Below W.heap.size W w→Calls Tryz.prog 69 #[.string ⟨t.toArray⟩] w fun e w'=>e= .returned (.string ⟨want.toArray⟩)∧Below w.heap.size w w')
 (hP:∀w,Below W.heap.size W w→Calls Tryz.prog 70 #[.string s, .agg #[.bool fo, .bool le, .bool wo]] w (Gq pl w)):
 Calls Tryz.prog 16 #[.string s, .string ⟨t.toArray⟩, .agg #[.bool fo, .bool le, .bool wo]] W (fQ (Left.every want pl) W):=by
 have hte:t.isEmpty=false:=by cases t with|nil=>exact absurd rfl ht|cons a b=>rfl
 have HF:=ah hF;have HPC:=ah hP;have HPN:=ah aix;have OO:=ah hpn;have HFO:=ah hfo;have HB0:=ah (EB.start W fo le wo);clear hF hP aix hpn hfo ht;go_enter Tryz.func16,Tryz.ntmps16;go_wp2_with fail;go_step3;go_upto_if 20 with(fail)
 go_cut [7] (fun q wx=>q= .string ⟨want.toArray⟩∧EB W fo le wo wx);case first=>
  cases fo;case false=>have HE:=ah (HFO.out rfl);clear HFO;go_wp2_with fail;go_meet;exact⟨by rw[HE.out],HB0.out⟩
  case true=>clear HFO;go_wp2_with fail;refine(HF.out trivial _ HB0.out.aB).mono ?_;rintro e w1 ⟨rfl,hb⟩;have HB1:=ah (HB0.out.go hb);clear hb;dsimp only;go_wp2_with fail;go_meet;exact⟨rfl,HB1.out⟩
 case rest=>
  obtain⟨rfl,hb⟩:=hcut;have HB:=ah hb;have y0:=(bq wc W.heap.size 0 _ _ _ hb.o).trans rfl;have y1:=(bq wc W.heap.size 1 _ _ _ hb.o).trans rfl;have y2:=(bq wc W.heap.size 2 _ _ _ hb.o).trans rfl;clear hb HB0;go_wp2_with fail;refine(HPC.out _ HB.out.aB).mono ?_;rintro e w1 ⟨v,rfl,hb1,hown1⟩;clear y0 y1 y2;obtain⟨N,hN⟩:∃N,pl.length=N:=⟨_,rfl⟩
  have hN0:0<N:=by have:=wX.2 HPN.out;omega
  have hNB:N≤100001:=by have:=OO.out;omega
  rw[hN]at hown1;obtain⟨g,cap,rfl,hg1,_⟩:=hown1.form hN0;have HB1:=ah hb1;clear hb1;have HO1:=ah hown1;clear hown1;have HN:=ah hN;clear hN;have HNB:=ah hNB;clear hNB;dsimp only;go_wp2;go_step3;rename_i K hK;refine hK _ _ ?_;go_wp2;go_loopw [28,9] (fun i vo wr=>∃(k:Nat) (acc:List (Nat×Nat)),k≤N∧i= .int .i64 k∧EV W want pl g N cap k acc vo wr) (fun i _ _=>N-(RowKit.intOf i).toNat);case atStart=>have hB:=HB1.out;have hO:=HO1.out;have h1:Below W.heap.size W w1:=HB.out.aB.trans (hB.mono HB.out.aB.size);exact⟨0,[],aH _,rfl,h1,rD hO (fun j hj=>aX HB.out.aB.size (bL hO hj).1),⟨rfl, .inl ⟨rfl,rfl⟩⟩,ay _,rfl⟩
  case round=>
   obtain⟨k,acc,hk,rfl,hE⟩:=hrel;have HE:=ah hE;clear hE;by_cases hlt:k<N
   ·obtain⟨⟨a,may,sh⟩,hp⟩:∃p,pl[k]? =some p:=⟨pl[k]'(by rw[HN.out];exact hlt),bf _⟩
    obtain⟨c0,c1,c2⟩:=Dk HE.out.plc hp;have hk0:(0:Int)≤k:=by omega
    have hk1:(k:Int)<N:=by omega
    cases may;case false=>
     have He:=ah hp;clear hp;have hwk:wrap64 ((k:Int)+1)=((k+1:Nat):Int):=by have:=HNB.out;unfold wrap64;omega
     have jr:=ah hwk;clear hwk;go_wp2;exact⟨⟨k+1,acc,hlt,by first|rw[jr.out]|rfl,(HE.out.below ((Below.refl _ _).alloc (Nat.le_refl _) _)).skip He.out (fun h=>absurd h Bool.false_ne_true)⟩,by first|(rw[jr.out];simp[RowKit.intOf];omega)|(simp[RowKit.intOf];omega)⟩
    case true=>
     go_wp2;obtain⟨w2,hw2⟩:∃w2,wr.alloc (.cells #[.int .i64 a, .bool true, .string ⟨sh.toArray⟩] 113)=w2:=⟨_,rfl⟩
     obtain⟨pb,hpb⟩:∃pb,wr.heap.size=pb:=⟨_,rfl⟩
     have hE2:EV W want pl g N cap k acc u9 w2:=by rw[←hw2];exact HE.out.below ((aG _ _).alloc (ay _) _)
     have d0:w2.cell? ⟨pb,0,none⟩=some (.int .i64 a):=by rw[←hw2,←hpb,bq _ _ 0 _ _ _ (dw wr _)];rfl
     rw[hw2,hpb];have He:=ah hp;clear c0 c1 c2 hw2 hpb hp;have HE2:=ah hE2;clear hE2;have hNb:=HNB.out;have hwk:wrap64 ((k:Int)+1)=((k+1:Nat):Int):=by unfold wrap64;omega
     have jr:=ah hwk;clear hwk;go_hide hQ;go_loop [12,13,9] (fun r jj v9=>v9=u9∧∃(j:Nat) (rest:List UInt8),k≤j∧j≤N∧r= .string ⟨rest.toArray⟩∧jj= .int .i64 j∧Left.look rest (pl.drop j)=Left.look want (pl.drop k)) (fun _ jj _=>N-(RowKit.intOf jj).toNat);case atStart=>exact⟨rfl,k,want,ay _,hk,rfl,rfl,rfl⟩
     case round=>
      obtain⟨rfl,j,rest,hkj,hj,rfl,rfl,adB⟩:=hrel;have Sr:=ah adB;clear adB;by_cases hjl:j<N
      ·obtain⟨⟨b,mj,sj⟩,hq⟩:∃p,pl[j]? =some p:=⟨pl[j]'(by rw[HN.out];exact hjl),bf _⟩
       obtain⟨c0,c1,c2⟩:=Dk HE2.out.plc hq;have hdj:=drop_at hq;have hj0:(0:Int)≤j:=by omega
       have hj1:(j:Int)<N:=by omega
       have HDJ:=ah hdj;clear hdj;clear hq;by_cases hr:rest=[]
       ·subst hr;cases mj;case false=>
         have hnone:Left.look want (pl.drop k)=none:=by rw[←Sr.out,HDJ.out,look_nil];rfl
         have HNO:=ah hnone;clear hnone;go_wp2;subst hQ;go_wp2;exact⟨⟨k+1,acc,hlt,by first|rw[jr.out]|rfl,HE2.out.skip He.out (fun _=>HNO.out)⟩,by first|(rw[jr.out];simp[RowKit.intOf];omega)|(simp[RowKit.intOf];omega)⟩
        case true=>
         have hsome:Left.look want (pl.drop k)=some b:=by rw[←Sr.out,HDJ.out,look_nil];rfl
         have VI:=ah hsome;clear hsome;have hal:acc.length≤100001:=by have:=HE2.out.len;omega
         obtain⟨i0,hi0,hz0,hz1,hz2⟩:=eG yU;have Nt:acc.length+1≤maxLen:=by simp only[maxLen];omega
         have hbase:W.heap.size≤w2.heap.size:=HE2.out.aB.size;have YH:=ah Nt;clear Nt;have Nu:=ah hbase;clear hbase;have hfr:(w2.drew.alloc (.cells #[.int .i64 a, .int .i64 b] 33)).ownsRow W.heap.size 33 2 _ acc.length (eX acc):=(Fr.alloc (fun _=>False) w2.drew _).own HE2.out.out (fun _ _=>id);have HFR:=ah hfr;clear hfr;have hca:=Gt (w:=w2) d0 (.cells #[.int .i64 a, .int .i64 b] 33);have hcb:=Gt (w:=w2) c0 (.cells #[.int .i64 a, .int .i64 b] 33);go_wp2;subst hQ;go_region_law ((refine step_append_lies _ (by rfl) (.tmp 51) (.tmp 60) 29 (by rfl) W.heap.size 33 i0 _ 2 16 Tryz.underlying29 hi0 hz0 hz1 hz2 rfl (by omega) _ acc.length (eX acc) (by rfl) HFR.out ⟨w2.heap.size,0,none⟩ 1 1 [.int .i64 a, .int .i64 b] (by rfl) (by rfl) (Eu (dw w2.drew _)) (afh _ _ rfl rfl) (by omega) YH.out (by omega) (aX Nu.out (dX (by simp))) _ rfl ?_;intro g3 Ns w3 hown3 hgrow3 _ _));all_goals (
          have hE3:=HE2.out.hit He.out VI.out hgrow3 hown3;have HE3:=ah hE3;clear hE3 hown3 hgrow3)
         all_goals go_wp2
         all_goals exact⟨⟨k+1,acc++[(a,b)],hlt,by first|rw[jr.out]|rfl,HE3.out⟩,by first|(rw[jr.out];simp[RowKit.intOf];omega)|(simp[RowKit.intOf];omega)⟩
       ·have hre:rest.isEmpty=false:=by cases rest with|nil=>exact absurd rfl hr|cons a b=>rfl
        have HR:=ah hr;clear hr;cases hcut:Left.cut rest sj with
        |none=>
         have hnone:Left.look want (pl.drop k)=none:=by rw[←Sr.out,HDJ.out];exact abE HR.out hcut
         have HNO:=ah hnone;clear hnone;have KV:=ah hcut;clear hcut;go_wp2_with fail;refine(afg rest sj _ KV.out).mono ?_;rintro e w4 ⟨rfl,rfl⟩;dsimp only;go_wp2;subst hQ;go_wp2;exact⟨⟨k+1,acc,hlt,by first|rw[jr.out]|rfl,HE2.out.skip He.out (fun _=>HNO.out)⟩,by first|(rw[jr.out];simp[RowKit.intOf];omega)|(simp[RowKit.intOf];omega)⟩
        |some nx=>
         have KV:=ah hcut;clear hcut;by_cases hsj:sj=[]
         ·have hnone:Left.look want (pl.drop k)=none:=by rw[←Sr.out,HDJ.out];exact UW HR.out KV.out hsj
          have HNO:=ah hnone;clear hnone;have amL:sj.isEmpty=true:=by rw[hsj];rfl
          clear hsj;go_wp2_with fail;refine(Sq rest sj nx _ KV.out).mono ?_;rintro e w4 ⟨rfl,rfl⟩;dsimp only;go_wp2;subst hQ;go_wp2;exact⟨⟨k+1,acc,hlt,by first|rw[jr.out]|rfl,HE2.out.skip He.out (fun _=>HNO.out)⟩,by first|(rw[jr.out];simp[RowKit.intOf];omega)|(simp[RowKit.intOf];omega)⟩
         ·have hgo:Left.look nx (pl.drop (j+1))=Left.look want (pl.drop k):=by rw[←Sr.out,HDJ.out];exact(abF HR.out KV.out hsj).symm
          have HGO:=ah hgo;clear hgo;have amL:sj.isEmpty=false:=by cases sj with|nil=>exact absurd rfl hsj|cons a b=>rfl
          have Pw:wrap64 ((j:Int)+1)=((j+1:Nat):Int):=by unfold wrap64;omega
          have HWJ:=ah Pw;clear Pw;clear hsj;go_wp2_with fail;refine(Sq rest sj nx _ KV.out).mono ?_;rintro e w4 ⟨rfl,rfl⟩;dsimp only;go_wp2;go_round;case rel=>exact⟨rfl,j+1,nx,by omega,by omega,rfl,by first|rw[HWJ.out]|rfl,HGO.out⟩
          case measure=>first|(rw[HWJ.out];simp[RowKit.intOf];omega)|(simp[RowKit.intOf];omega)
      ·have hnone:Left.look want (pl.drop k)=none:=by rw[←Sr.out,jM (by rw[HN.out];omega)];unfold Left.look;rfl
       have HNO:=ah hnone;clear hnone;go_wp2;subst hQ;go_wp2;exact⟨⟨k+1,acc,hlt,by first|rw[jr.out]|rfl,HE2.out.skip He.out (fun _=>HNO.out)⟩,by first|(rw[jr.out];simp[RowKit.intOf];omega)|(simp[RowKit.intOf];omega)⟩
   ·have hkn:k=N:=by omega
    have hl:=HE.out.eq;rw[jM (by rw[HN.out,hkn];exact ay _)]at hl;have HL:=ah hl;clear hl;obtain⟨A9,c9,rfl,_⟩:=gK HE.out.out;obtain⟨m,hm⟩:∃m,acc.length=m:=⟨_,rfl⟩
    have HM:=ah hm;rw[hm]at HE⊢;clear hm hkn;go_wp2;rw[Exit.noGoto_ret];go_ret;refine⟨_,rfl,HE.out.aB,?_⟩;have h:=HE.out.out;have e:acc=Left.every want pl:=by rw[←HL.out];simp[Left.every]
    rw[←e];exact h
end Go.Proofs.YtocaiijbhepnnaaGreatDoor.searchAsks
