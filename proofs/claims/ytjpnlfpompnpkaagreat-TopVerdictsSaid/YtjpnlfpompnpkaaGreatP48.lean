/-
  The law TopVerdicts: for every input it returns true, and its arguments read as they did; under no condition but the row's.
-/
import Derived.Test.YtjpnlfpompnpkaaGreatP28
import Derived.Test.YtjpnlfpompnpkaaGreatP47
namespace Go.Proofs.YtjpnlfpompnpkaaGreat
open Go.RowKit Go.Proofs.Tryz
open Go.Value renaming int->an,slice->av,bool->aw,string->aA,tuple->aM,pointer->aL,agg->aG
open Go.IntKind renaming i64->ar
open Go.Ending renaming returned->ax
open Go.Obj renaming cells->aB
open Go renaming World->ae,Value->ah,Calls->aj,Ending->ak
open Go.RowKit renaming Below->ai
set_option maxRecDepth 100000
set_option linter.all false
set_option maxHeartbeats 2000000
open mX
variable{c:aV}{x:cB}
def Fi(x:cB)(y:ej):(eG c x y).1.last=x.last:=by
 unfold eG;simp only;split<;>rfl
def LZ(x:cB)(id:Int):(cX c x id).1.last=x.last:=by
 unfold cX;split<;>rfl
def On(x:cB)(r:lr):(eX c x r).1.last=x.last:=by
 unfold eX;split
 .rfl
 .split
  .rfl
  .split
   .rfl
   .split
    .rfl
    .rw[Fi]
def Oo(x:cB)(m:cd):(dU c x m).1.last=x.last:=by
 unfold dU;split
 .rfl
 .exact On x _
 .rfl
def St(x:cB)(y:ej)(s:Nat)(d:Int):(cL c x y s d).1.last=x.last:=by
 unfold cL;simp only;split
 .rfl
 .split
  .rfl
  .split<;>rfl
def Cp(d:Int):∀(l:List Int) (x:cB) (y:ej) (a:List fF),(dL c d l x y a).1.last=x.last
 | [],_,_,_=>rfl
 |s::l,x,y,a=>by
  unfold dL;rw[Cp d l,St]
def xI(x:cB)(d:Int):∀k:Nat,(dM c x d k).1.last=x.last
 |0=>rfl
 |k+1=>by
  have h:=xI x d k;unfold dM lE;split
  .exact h
  .split
   .exact h
   .simp only
    show(dL c d _ _ _ _).1.last=_
    rw[Cp,h]
def Su(x:di){e:cO}(h:e.kind≠1):(bC c x e).2.verdict=0/\(bC c x e).2.id=0/\(bC c x e).1.co.last=x.co.last:=by
 unfold bC cM;rw[aC h];by_cases e2:e.kind=2
 .rw[aI e2]
  have⟨h1,h2,a⟩:=eF (c:=c) 0 (cX c x.co e.at').2 {x with co:=(cX c x.co e.at').1} ⟨e,0,0,[],-1,[]⟩;rw[h1,h2,a];exact⟨rfl,rfl,LZ _ _⟩
 rw[aC e2];by_cases e3:e.kind=3
 .rw[aI e3]
  exact⟨rfl,rfl,rfl⟩
 rw[aC e3];by_cases f:e.kind=4
 .rw[aI f]
  split
  .have⟨h1,h2,a⟩:=eF (c:=c) e.node (gM c x e.node e.x).2 (gM c x e.node e.x).1 ⟨e,0,0,[],-1,[]⟩
   rw[h1,h2,a];refine⟨rfl,rfl,?_⟩;unfold gM;split
   .exact xI _ _ _
   .split<;>rfl
  .exact⟨rfl,rfl,rfl⟩
 rw[aC f];by_cases i:e.kind=5
 .rw[aI i]
  unfold eE;split
  .simp only
   split
   .exact⟨rfl,rfl,rfl⟩
   .split
    .rename_i m _ _
     have b:∀r:cS,r.verdict=0->r.id=0->∀g l,(dh c (fL c {x with net:=gG x.net e.at'} (ij x.net e.at').tO m).1 r g l).2.verdict=0/\(dh c (fL c {x with net:=gG x.net e.at'} (ij x.net e.at').tO m).1 r g l).2.id=0/\(dh c (fL c {x with net:=gG x.net e.at'} (ij x.net e.at').tO m).1 r g l).1.co.last=x.co.last:=λr p q g l=>by
      have⟨h1,h2,a⟩:=eF (c:=c) g l (fL c {x with net:=gG x.net e.at'} (ij x.net e.at').tO m).1 r;rw[h1,h2,a];refine⟨p,q,?_⟩;unfold fL;split
      .exact Oo _ _
      .show(di.upd _ _ _).co.last=_
       rw[ja]
     split
     .exact b _ rfl rfl _ _
     .exact b _ rfl rfl _ _
    .exact⟨rfl,rfl,rfl⟩
  .exact⟨rfl,rfl,rfl⟩
 rw[aC i];by_cases j:e.kind=6
 .rw[aI j]
  split<;>exact⟨rfl,rfl,rfl⟩
 rw[aC j];by_cases k:e.kind=7
 .rw[aI k]
  exact⟨rfl,rfl,rfl⟩
 rw[aC k];by_cases n:e.kind=8
 .rw[aI n]
  exact⟨rfl,rfl,rfl⟩
 rw[aC n];by_cases o:e.kind=9
 .rw[aI o]
  exact⟨rfl,rfl,by rw[ja]⟩
 rw[aC o];by_cases d:e.kind=10
 .rw[aI d]
  exact⟨rfl,rfl,by rw[ja]⟩
 rw[aC d];split
 .exact⟨rfl,rfl,by rw[ja]⟩
 .exact⟨rfl,rfl,rfl⟩
def Oq{n:Nat}{x:di}(h:f_ c n x){e:cO}(d:e.kind=1):
 (ie e.text e.k e.n=false->(bC c x e).2.verdict=1/\(bC c x e).2.id=0/\(bC c x e).1.co.last=x.co.last)/\
 (ie e.text e.k e.n=true->(fh x.co.told:Int)=c.slots->(bC c x e).2.verdict=2/\(bC c x e).2.id=0/\(bC c x e).1.co.last=x.co.last)/\
 (ie e.text e.k e.n=true->(fh x.co.told:Int)≠c.slots->(bC c x e).2.verdict=3/\(bC c x e).2.id=x.co.last+1/\(bC c x e).1.co.last=x.co.last+1):=by
 have hs:bC c x e=dh c {x with co:=(dq c x.co e.text e.k e.n).1} {(⟨e,0,0,[],-1,[]⟩:cS)with verdict:=(dq c x.co e.text e.k e.n).2.1.1,id:=(dq c x.co e.text e.k e.n).2.1.2} 0 (dq c x.co e.text e.k e.n).2.2:=by
  unfold bC cM;rw[aI d]
 have⟨h1,h2,f⟩:=eF (c:=c) 0 (dq c x.co e.text e.k e.n).2.2 {x with co:=(dq c x.co e.text e.k e.n).1} {(⟨e,0,0,[],-1,[]⟩:cS)with verdict:=(dq c x.co e.text e.k e.n).2.1.1,id:=(dq c x.co e.text e.k e.n).2.1.2};rw[hs,h1,h2,f];simp only;have g:=h.co.wl;have i:=h.td.cn;have j:=(aV.bounds h.co.may).s1;have hl:(fh x.co.told:Int)=c.slots↔cntF x.co.who=x.co.who.length:=by omega
 rw[hl];refine⟨λhm=> ?_,λhm b=> ?_,λhm b=> ?_⟩
 .have a:(jD (ie e.text e.k e.n) x.co.who x.co.last)=(1,0,0):=by unfold jD;rw[aI hm]
  rw[iO (by rw[a];decide),a];exact⟨rfl,rfl,rfl⟩
 .have a:(jD (ie e.text e.k e.n) x.co.who x.co.last)=(2,0,0):=by unfold jD;rw[aC (by rw[hm];decide),aI b]
  rw[iO (by rw[a];decide),a];exact⟨rfl,rfl,rfl⟩
 .have a:(jD (ie e.text e.k e.n) x.co.who x.co.last).1=3:=by unfold jD;rw[aC (by rw[hm];decide),aC λk=>b (hl.2 k)]
  rw[iJ a];exact⟨rfl,rfl,by rw[Fi];rfl⟩
open Go.ChangeMaps
variable{P:Tg->Prop}{τ br:cj}{w w' y z:ae}
def Sv(c:aV)(v:ah)(es:List cO)(w:ae)(hc:c.rd w)(hes:aT cO.cells 7 w v es)(he:∀e∈es,te e):aj prog 7 #[c.val,v] w λe w'=>e=ax (aw true)/\ai w w w':=by
 have⟨u,hu⟩:=aD (w.alloc (aB c.cells.toArray 25 (0,0)));have⟨hbx,hg,hl2⟩:=aV.box hu;have hgb:=hl2.aJ;have hb0:u.heap[w.heap.size]? =some (aB c.cells.toArray 25 (0,0)):=by rw[hu];exact a_ _ _
 have⟨q,hq⟩:=aD w.heap.size;rw[<-hq]at hb0 hbx;have⟨Er,qH,CN,oM⟩:=c_ (hes.below hgb) (hc.below hgb) he (qe (hc.below hgb) (hes.below hgb) 300 (by decide));have⟨Q,hQ⟩:= @aD (ak->ae->Prop) (λe w'=>e=ax (aw true)/\ai w w w');have K9:=au (show∀y,ai u u y->Q (ax (aw true)) y fromλy K=>by rw[hQ];exact⟨rfl,hgb.trans (K.mono hgb.size)⟩);have uG:=au (show∀y,ai u u y->aj prog 14 #[] y λe z=>e=ax (aw true)/\Q (ax (aw true)) z fromλy K=>(nS y).mono λe z ⟨W,h2⟩=>⟨W,K9.o z (K.trans (h2.mono K.size))⟩);rw[<-hQ];have⟨C,hC⟩:=aD c;rw[<-hC]at oM qH;obtain⟨wv,cv,words,cuts,f,g,d,s,aS,t,first,cap,r,net⟩:=c;have th:=au (show∀y,ai u u y->q<y/\y.cell? q=(wv)/\y.cell? ⟨q,1,none⟩=(cv)/\y.cell? ⟨q,2,none⟩=f/\y.cell? ⟨q,3,none⟩=g/\y.cell? ⟨q,4,none⟩=d/\y.cell? ⟨q,5,none⟩=s/\y.cell? ⟨q,6,none⟩=aS/\y.cell? ⟨q,7,none⟩=t/\y.cell? ⟨q,8,none⟩=first/\y.cell? ⟨q,9,none⟩=cap/\y.cell? ⟨q,10,none⟩=r/\y.cell? ⟨q,11,none⟩=net fromλy K=>by
  have x:=(K.block q (az hb0)).trans hb0;exact⟨az x,aF x _ rfl,aF x _ rfl,aF x _ rfl,aF x _ rfl,aF x _ rfl,aF x _ rfl,aF x _ rfl,aF x _ rfl,aF x _ rfl,aF x _ rfl,aF x _ rfl,aF x _ rfl⟩)
 have⟨alj,vR⟩:=aK (show C.slots=d by rw[hC]) (show C.val=aG #[wv,cv,f,g,d,s,aS,t,first,cap,r,net]by rw[hC];rfl);have hval:aV.val ⟨wv,cv,words,cuts,f,g,d,s,aS,t,first,cap,r,net⟩=aG #[wv,cv,f,g,d,s,aS,t,first,cap,r,net]:=rfl;have⟨HU,HQ⟩:=aK (show u=w.alloc (aB #[wv,cv,f,g,d,s,aS,t,first,cap,r,net] 25 (0,0))from hu) hq;rw[hval];rw[vR.o]at oM;have⟨ql,h0,W,h2,h3,h4,h5,h6,h7,h8,h9,X,Y⟩:=th.o u (aO _ _);obtain⟨va,vc,rfl,M,hn2,hrd⟩:=hes;unfold maxLen at M;have HRE:=au hrd;have⟨N,hN⟩:=aD es.length;have HN:=au hN;rw[<-hN]at M hn2 oM⊢;have⟨HB0,ZH⟩:=aK hb0 hgb;clear hQ hu hbx hl2 hgb hq hval hC hb0 hrd hN hc he;go_in;go_upto_region 1 with fail
 rw[<-HU.o,<-HQ.o];go_wp2_with fail
 refine oM.m ?_;rintro e y0 ⟨b,rfl,B,hbf⟩;have ZI:=au B;obtain rfl|rfl:=Bool.eq_false_or_eq_true b
 .have HA:=au (uG.o y0 B)
  clear hbf B;go_wp2_with fail
  refine HA.m ?_;rintro e y1 ⟨rfl,hy1⟩;have HE:=au hy1;clear hy1;go_wp2;exact HE.o
 .have⟨hok,hle,htx⟩:=hbf rfl
  have hev:=rF htx CN.o;have O0:N<=300:=by omega
  have La:=au (show aT cO.cells 7 y0 (av va N vc) es by
   have:=Er.o.below B;rw[<-HN.o]at this;exact this)
  have⟨CA,I4⟩:=aK (show∀y,ai y0 y0 y->aj prog 14 #[] y λe z=>e=ax (aw true)/\Q (ax (aw true)) z fromλy K=>uG.o y (B.trans (K.mono B.size))) (show∀y,ai y0 y0 y->q<y/\y.cell? q=(wv)/\y.cell? ⟨q,1,none⟩=(cv)/\y.cell? ⟨q,2,none⟩=f/\y.cell? ⟨q,3,none⟩=g/\y.cell? ⟨q,4,none⟩=d/\y.cell? ⟨q,5,none⟩=s/\y.cell? ⟨q,6,none⟩=aS/\y.cell? ⟨q,7,none⟩=t/\y.cell? ⟨q,8,none⟩=first/\y.cell? ⟨q,9,none⟩=cap/\y.cell? ⟨q,10,none⟩=r/\y.cell? ⟨q,11,none⟩=net fromλy K=>th.o y (B.trans (K.mono B.size)));have J_:=au (show∀k,k<es.length->∃b o,va=some ⟨b,o,none⟩/\b<y0.heap.size/\∀j v,(es.getD k ()).cells[j]? =some v->y0.cell? ⟨b,o+k*7+j,none⟩=some v by
   have⟨a',c',e1,_,_,hr2⟩:=La.o;simp only[bG]at e1;obtain⟨rfl,_,_⟩:=e1;exact hr2)
  have E8:=au (tz (c:=C) (hok.below B));rw[vR.o]at E8;have HSL:=au (show C.slots=d from alj.o);have⟨LS,hLS⟩:= @aD (Nat->Int) (λk=>(bW C (es.take k)).co.last);have⟨SI,uO⟩:= @aD (Nat->Nat->ae->Prop) (λxb k y=>rC C xb (λb=>b<y0.heap.size) (bW C (es.take k)) (iQ C (es.take k)) k y/\ai y0 y0 y);have⟨D7,FM,qL⟩:=aX uO hLS hev;have⟨ql,h0,W,h2,h3,h4,h5,h6,h7,h8,h9,X,Y⟩:=th.o y0 B;clear hok hle htx hev hbf B hLS uO;go_wp2_with fail
  refine E8.m ?_;rintro e y1 ⟨hy1,⟨hm,rfl⟩|⟨hm,xb,rfl,hl⟩⟩
  .have HE:=au (CA.o y1 hy1)
   clear h0 W h2 h3 h4 h5 h6 h7 h8 h9 X Y ql hy1 hm;go_wp2_with fail
   refine HE.m ?_;rintro e y2 ⟨rfl,hy2⟩;have HE2:=au hy2;clear hy2;go_wp2;exact HE2.o
  .have⟨Pu,HL0,HM⟩:=aX (show SI xb 0 y1 by rw[D7.o];exact⟨hl,hy1⟩) (show LS 0=0 by rw[FM.o];rfl) hm
   have Jt:=au (show∀k y,k<=N->SI xb k y->∃cb,aj prog 29 #[xb] y (λe z=>e=ax (aL (some ⟨cb,0,none⟩))/\y=z)/\
    aj prog 30 #[aL (some ⟨cb,0,none⟩)] y (λe z=>∃(a:Option Addr) (n m:Nat),e=ax (av a n m)/\(n:Int)=LS k/\0<=LS k/\LS k<=1000000/\SI xb k z/\aj prog 28 #[av a n m] z λe z'=>e=ax (fh (bW C (es.take k)).co.told:Int)/\z=z')fromλk y hk hs=>by
    rw[D7.o]at hs;obtain⟨W,h2⟩:=hs;have⟨cb,k1,k2,_⟩:=W.co (by omega);refine⟨cb,k1,k2.mono ?_⟩;rintro e z ⟨v,rfl,k3,k4⟩;obtain⟨a,m,rfl,_⟩:=k3.len;have t1:=W.ok.co.tl;have t2:=W.ok.co.lb;refine⟨a,_,m,rfl,by rw[FM.o];exact t1,by rw[FM.o];show(0:Int)<=(bW C (es.take k)).co.last;omega,by rw[FM.o];show(bW C (es.take k)).co.last<=(1000000:Int);omega,?_,Gj k3⟩;rw[D7.o];exact⟨W.E5 h2.size k4,h2.trans (k4.mono h2.size)⟩)
   have sB:=au (show∀k y z,SI xb k y->ai y y z->SI xb k z fromλk y z hs x=>by
    rw[D7.o]at hs⊢;exact⟨hs.1.E5 hs.2.size x,hs.2.trans (x.mono hs.2.size)⟩)
   have HB0:=au (show∀k y,SI xb k y->ai y0 y0 y fromλk y hs=>by rw[D7.o]at hs;exact hs.2);have HST:=au (show∀k y,(hk:k<es.length)->SI xb k y->∀Z nd A ex tx ek en,es[k]=⟨Z,nd,A,ex,tx,ek,en⟩->∃V I:Int,aj prog 24 #[xb,aG #[an ar Z,an ar nd,an ar A,an ar ex,aA tx,an ar ek,an ar en]] y (λe z=>∃(sa:Option Addr) (sn sk:Nat) (la:Option Addr) (ln lk:Nat) (got:Int),e=ax (aG #[an ar Z,an ar nd,an ar A,an ar ex,aA tx,an ar ek,an ar en,V,I,av sa sn sk,(got:Int),av la ln lk])/\SI xb (k+1) z)/\
    (Z≠1->V=0/\I=0/\LS (k+1)=LS k)/\
    (Z=1->ie tx ek en=false->V=1/\I=0/\LS (k+1)=LS k)/\
    (Z=1->ie tx ek en=true->(fh (bW C (es.take k)).co.told:Int)=d->V=2/\I=0/\LS (k+1)=LS k)/\
    (Z=1->ie tx ek en=true->(fh (bW C (es.take k)).co.told:Int)≠d->V=3/\I=LS k+1/\LS (k+1)=LS k+1)fromλk y hk hs Z nd A ex tx ek en hE=>by
    rw[D7.o]at hs;obtain⟨W,h2⟩:=hs;have⟨t1,t2⟩:=Bk C es hk;have hx:LS (k+1)=(bC C (bW C (es.take k)) (es[k])).1.co.last:=by rw[FM.o];show(bW C (es.take (k+1))).co.last=_;rw[t1]
    have hx0:LS k=(bW C (es.take k)).co.last:=by rw[FM.o]
    have hr:=rY (c:=C) (bW C (es.take k)) (es[k]);have hst:=W.VP h2 (by have:=HN.o;omega) (aO _ _) (es[k]) (qL.o _ (eA hk));have hq1:=Su (c:=C) (bW C (es.take k)) (e:=es[k]);have hq2:=λ(h:(es[k]).kind=1)=>Oq W.ok h
    refine⟨(bC C (bW C (es.take k)) (es[k])).2.verdict,(bC C (bW C (es.take k)) (es[k])).2.id,?_,?_⟩
    .have hvl:(es[k]).vl=aG #[an ar Z,an ar nd,an ar A,an ar ex,aA tx,an ar ek,an ar en]:=by rw[hE];rfl
     rw[hvl]at hst;refine hst.mono ?_;rintro e z ⟨sa,sn,sk,la,ln,lk,rfl,g1,g2,_⟩;refine⟨sa,sn,sk,la,ln,lk,(bC C (bW C (es.take k)) (es[k])).2.got,?_,?_⟩
     .show Ending.returned (qC _ _ _ _ _ _ _ _ _ _ _ _)=_
      rw[hr,hE];rfl
     .rw[D7.o]
      show rC C xb _ (bW C (es.take (k+1))) (iQ C (es.take (k+1))) (k+1) z/\_
      rw[t1,t2];exact⟨g1,g2⟩
    .rw[hx,hx0,<-HSL.o]
     rw[hE]at hq1 hq2;rw[hE];exact⟨hq1,λh=>(hq2 h).1,λh=>(hq2 h).2.1,λh=>(hq2 h).2.2⟩)
   clear hl hy1 hm h0 W h2 h3 h4 h5 h6 h7 h8 h9 X Y ql;go_wp2;go_loopw [6,7] (λl i wr=>∃k:Nat,k<=N/\i=an ar k/\l=an ar (LS k)/\SI xb k wr) (λ_ i _=>N-(intOf i).toNat)
   case atStart=>exact⟨0,bz _,rfl,by rw[HL0.o],Pu.o⟩
   case round=>
    obtain⟨k,hk,rfl,rfl,hsi⟩:=hrel;by_cases hlt:k<N
    .have hkl:k<es.length:=by rw[<-HN.o];exact hlt
     obtain⟨b,o,rfl,x,O⟩:=J_.o k hkl;have hgd:es.getD k ()=es[k]:=by simp[aU,hkl]
     rw[hgd]at O;have⟨E,hE⟩:=aD (es[k]);have htx:=(qL.o _ (eA hkl)).2;rw[<-hE]at O htx;obtain⟨Z,nd,A,ex,tx,ek,en⟩:=E;simp only at htx;have WA:=au (show∀y,ai y0 y0 y->b<y.heap.size/\y.cell? ⟨b,o+k*7,none⟩=some (an ar Z)/\y.cell? ⟨b,o+k*7+1,none⟩=some (an ar nd)/\y.cell? ⟨b,o+k*7+2,none⟩=some (an ar A)/\y.cell? ⟨b,o+k*7+3,none⟩=some (an ar ex)/\y.cell? ⟨b,o+k*7+4,none⟩=some (aA tx)/\y.cell? ⟨b,o+k*7+5,none⟩=some (an ar ek)/\y.cell? ⟨b,o+k*7+6,none⟩=some (an ar en)fromλy K=>⟨bP x K.size,by simpa using(K.cell (p:=⟨b,o+k*7+0,none⟩) x).trans (O 0 (an ar Z) rfl),(K.cell (p:=⟨b,o+k*7+1,none⟩) x).trans (O 1 (an ar nd) rfl),(K.cell (p:=⟨b,o+k*7+2,none⟩) x).trans (O 2 (an ar A) rfl),(K.cell (p:=⟨b,o+k*7+3,none⟩) x).trans (O 3 (an ar ex) rfl),(K.cell (p:=⟨b,o+k*7+4,none⟩) x).trans (O 4 (aA tx) rfl),(K.cell (p:=⟨b,o+k*7+5,none⟩) x).trans (O 5 (an ar ek) rfl),(K.cell (p:=⟨b,o+k*7+6,none⟩) x).trans (O 6 (an ar en) rfl)⟩);have⟨cb,F,G⟩:=Jt.o k wr hk hsi;have⟨se,qS,HKL⟩:=aX F G hkl;have⟨HE,Wp⟩:=aK (show(⟨Z,nd,A,ex,tx,ek,en⟩:cO)=es[k]'(HKL.o)from hE) (show tx.size<=maxLen from bD htx (by decide));have q1:(0:Int)<=(k:Int):=by omega
     have q2:(k:Int)<(N:Int):=by omega
     have⟨L,hL⟩:=aD (LS k);have Uv:=au hL;rw[<-hL];clear O hgd hE x hsi F G hkl htx hL;go_wp2_with fail
     refine aH se.o ?_;go_wp2_with fail
     refine qS.m ?_;rintro e y2 ⟨a2,n2,m2,rfl,M,hn2,hn3,hs2,hu⟩;have⟨V,I,hst,v1,v2,v3,v4⟩:=HST.o k y2 HKL.o hs2 Z nd A ex tx ek en HE.o.symm;have⟨U,hU⟩:= @aD Nat (fh (bW C (es.take k)).co.told);rw[<-hU]at hu v3 v4;rw[<-Uv.o]at v1 v2 v3 v4 hn2 hn3;have⟨HU,LG,HV⟩:=aX hu hst (And.intro v1 (And.intro v2 (And.intro v3 v4)));have⟨bl,p0,p1,p2,p3,p4,p5,p6⟩:=WA.o y2 (HB0.o _ _ hs2);clear hu hst v1 v2 v3 v4 hs2 M hU;go_wp2_with fail
     refine aH HU.o ?_;go_wp2_with fail
     refine LG.m ?_;rintro e z ⟨sa,sn,sk,la,ln,lk,got,rfl,hz⟩;have⟨z2,hz2⟩:=aD (z.alloc (aB #[an ar Z,an ar nd,an ar A,an ar ex,aA tx,an ar ek,an ar en,V,I,av sa sn sk,(got:Int),av la ln lk] 45 (0,0)));have hbx:z2.heap[z.heap.size]? =some (aB #[an ar Z,an ar nd,an ar A,an ar ex,aA tx,an ar ek,an ar en,V,I,av sa sn sk,(got:Int),av la ln lk] 45 (0,0)):=by rw[hz2];exact a_ _ _
     have hbz:ai z z z2:=by rw[hz2];exact(aO _ _).alloc (aP _) _
     have HS2:=au (sB.o _ _ _ hz hbz);have HDX:=au (show∀y,ai z2 z2 y->z.heap.size<y.heap.size/\y.cell? ⟨z,7,none⟩=V/\y.cell? ⟨z,8,none⟩=I fromλy K=>by
      have h:=(K.block _ (az hbx)).trans hbx;exact⟨az h,aF h _ rfl,aF h _ rfl⟩)
     have HZ2:=au hz2;clear hz2 hbx hbz hz p0 p1 p2 p3 p4 p5 p6 bl;have⟨bl,p0,p1,p2,p3,p4,p5,p6⟩:=WA.o z2 (HB0.o _ _ HS2.o);have⟨zl,d7,d8⟩:=HDX.o z2 (aO _ _);go_upto_region 12 with fail
     rw[<-HZ2.o];by_cases e1:Z=1
     .have c1:(Z !=1)=false:=by simp[e1]
      have⟨Rt,HE1⟩:=aK (WQ tx ek en z2 Wp.o) e1;clear e1;cases hmv:ie tx ek en
      .obtain⟨rfl,rfl,H⟩:=HV.o.2.1 HE1.o hmv
       rw[hmv]at Rt;clear hmv;have T:=au H;clear H;go_wp2_with fail
       refine Rt.m ?_;rintro e z3 ⟨rfl,J⟩;have FU:=au (sB.o _ _ _ HS2.o J);have⟨zl3,d73,d83⟩:=HDX.o z3 J;have⟨ql,h0,W,h2,h3,h4,h5,h6,h7,h8,h9,X,Y⟩:=I4.o z3 (HB0.o _ _ FU.o);have⟨cb3,F,G⟩:=Jt.o (k+1) z3 (by omega) FU.o;have⟨se,qS⟩:=aK F G;clear F G J zl d7 d8 p0 p1 p2 p3 p4 p5 p6 bl h0 W h2 h3 h5 h6 h7 h8 h9 X Y;go_wp2_with fail
       refine aH se.o ?_;go_wp2_with fail
       refine qS.m ?_;rintro e z4 ⟨a4,n4,m4,rfl,M,hn4,Yf,hs4,_⟩;rw[T.o]at M;have HS4:=au hs4;clear hs4 hn4 Yf h4 ql;go_wp2;go_roundw
       case rel=>exact⟨k+1,by omega,by go_num,by rw[T.o],HS4.o⟩
       case measure=>simp[intOf];omega
      .rw[hmv]at Rt
       by_cases hu:(U:Int)=d
       .obtain⟨rfl,rfl,H⟩:=HV.o.2.2.1 HE1.o hmv hu
        have c2:((U:Int)==d)=true:=by simp[hu]
        clear hmv hu;have T:=au H;clear H;go_wp2_with fail
        refine Rt.m ?_;rintro e z3 ⟨rfl,J⟩;have FU:=au (sB.o _ _ _ HS2.o J);have⟨zl3,d73,d83⟩:=HDX.o z3 J;have⟨ql,h0,W,h2,h3,h4,h5,h6,h7,h8,h9,X,Y⟩:=I4.o z3 (HB0.o _ _ FU.o);have⟨cb3,F,G⟩:=Jt.o (k+1) z3 (by omega) FU.o;have⟨se,qS⟩:=aK F G;clear F G J zl d7 d8 p0 p1 p2 p3 p4 p5 p6 bl h0 W h2 h3 h5 h6 h7 h8 h9 X Y;go_wp2_with fail
        refine aH se.o ?_;go_wp2_with fail
        refine qS.m ?_;rintro e z4 ⟨a4,n4,m4,rfl,M,hn4,Yf,hs4,_⟩;rw[T.o]at M;have HS4:=au hs4;clear hs4 hn4 Yf h4 ql;go_wp2;go_roundw
        case rel=>exact⟨k+1,by omega,by go_num,by rw[T.o],HS4.o⟩
        case measure=>simp[intOf];omega
       .obtain⟨rfl,rfl,H⟩:=HV.o.2.2.2 HE1.o hmv hu
        have c2:((U:Int)==d)=false:=by simp[hu]
        clear hmv hu;have T:=au H;clear H;go_wp2_with fail
        refine Rt.m ?_;rintro e z3 ⟨rfl,J⟩;have FU:=au (sB.o _ _ _ HS2.o J);have⟨zl3,d73,d83⟩:=HDX.o z3 J;have⟨ql,h0,W,h2,h3,h4,h5,h6,h7,h8,h9,X,Y⟩:=I4.o z3 (HB0.o _ _ FU.o);have⟨cb3,F,G⟩:=Jt.o (k+1) z3 (by omega) FU.o;have⟨se,qS⟩:=aK F G;clear F G J zl d7 d8 p0 p1 p2 p3 p4 p5 p6 bl h0 W h2 h3 h5 h6 h7 h8 h9 X Y;go_wp2_with fail
        refine aH se.o ?_;go_wp2_with fail
        refine qS.m ?_;rintro e z4 ⟨a4,n4,m4,rfl,M,hn4,Yf,hs4,_⟩;rw[T.o]at M;have HS4:=au hs4;clear hs4 hn4 Yf h4 ql;go_wp2;go_roundw
        case rel=>exact⟨k+1,by omega,by go_num,by rw[T.o],HS4.o⟩
        case measure=>simp[intOf];omega
     .obtain⟨rfl,rfl,H⟩:=HV.o.1 e1
      have c1:(Z !=1)=true:=by simp[e1]
      have T:=au H;clear H e1;go_wp2;go_roundw
      case rel=>exact⟨k+1,by omega,by go_num,by rw[T.o],HS2.o⟩
      case measure=>simp[intOf];omega
    .obtain rfl:k=N:=by omega
     have HE:=au (CA.o wr (HB0.o _ _ hsi));clear hsi;go_wp2_with fail
     refine HE.m ?_;rintro e y2 ⟨rfl,hy2⟩;have HE2:=au hy2;clear hy2;go_wp2;exact HE2.o
open Go.ChangeShapes Go.WideShapes Go.ChangeAt
def tF(y:Os)(a:y.Started)(H:Type)(enc:TypeId×ah->H):
 ReturnsInHanded {} Tryz.checked y 7 .any (Rows.topVerdictsSpec.pre6 enc prog Tryz.f7 Rows.topVerdictsRow.domain false) (Rows.topVerdictsSpec.post enc prog Tryz.f7 false true false false):=by
 refine returnsInHanded_of_change (C:=Tryz.checked) yM a (by kernel_rfl) func7
  (ChangeSpec.witness6 (enc:=enc) (C:=Tryz.checked) false ⟨#[],#[aG #[(),(),an ar 0,an ar 0,an ar 0,an ar 0,an ar 0,an ar 0,an ar 0,an ar 0,an ar 0,an ar 0],()],[]⟩ 8 (by kernel_rfl) (by kernel_rfl) (by kernel_rfl) (by kernel_rfl)) ?_
 intro W base args J gs f b z _ _;have c:∀(j:Nat) t v,Tryz.f7.params[j]? =some t->args[j]? =some v->Value.okWide prog W .any base t v:=b
 have g:=z;obtain⟨p,q,sr,K,rfl,_,_⟩:=z;have A:DataW.TrodAll enc prog W 0 (λ_=>true) true Tryz.f7.params.toList args.toList J p:=sr;rw[Tryz.params7]at A c;obtain⟨B,L,d0,M,N,q0,i,rfl,rfl,E,O⟩:=trodAll_cons A;obtain⟨k,P,d1,Q,T,q1,rfl,rfl,rfl,F,U⟩:=trodAll_cons O;obtain⟨rfl,rfl,rfl⟩:=trodAll_nil U;obtain rfl:args= #[B,k]:=by cases args;simp_all
 obtain⟨rfl,rfl⟩:=trodVars_none K;have G:=E;have l:∀x∈N,x.block<W.heap.size:=by obtain⟨m,n⟩:=G;exact DataW.trod_lt m _ _ _ n
 obtain⟨V,rfl,o,X,Y⟩:=gW (c 0 25 B rfl rfl) E;have I:=F;have r:∀x∈T,x.block<W.heap.size:=by obtain⟨m,n⟩:=I;exact DataW.trod_lt m _ _ _ n
 have⟨s,u,w⟩:=fN (c 1 26 k rfl rfl) F;clear sr b;refine(Sv V k s W o u w).mono λe W' ⟨Z,d⟩=> ?_
 subst Z;exact⟨_,rfl,_,_,_,[],_,[],g,trodAll_mk1 (shut_bool underlying4 _),(trodAll_cons_mk (Below.trod lS (by kernel_rfl) (of_decide_eq_true (by kernel_rfl)) G d l) (trodAll_cons_mk (Below.trod lS (by kernel_rfl) (of_decide_eq_true (by kernel_rfl)) I d r) trodAll_mk0)),rfl,d.frame _,λh=>by cases h⟩
theorem P3:Rows.TopVerdictsSaid:=
 OpenClaim.holds_of_wide 7 Tryz.f7 rfl rfl rfl rfl rfl rfl rfl ⟨rfl,rfl,rfl,rfl,rfl⟩ rfl rfl rfl rfl rfl (by kernel_rfl) func7 uM
  (of_decide_eq_true (by kernel_rfl)) (by unfold Func.isWrapper;rw[aC (of_decide_eq_false (by kernel_rfl))];exact⟨rfl,rfl⟩)
  (λb a H enc _=>tF b a H enc)
end Go.Proofs.YtjpnlfpompnpkaaGreat
