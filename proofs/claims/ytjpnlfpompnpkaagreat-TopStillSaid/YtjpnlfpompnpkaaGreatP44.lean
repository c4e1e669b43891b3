/-
  The law TopStill: for every input it returns true, and its arguments read as they did; under no condition but the row's.
-/
import Derived.Test.YtjpnlfpompnpkaaGreatP25
import Derived.Test.YtjpnlfpompnpkaaGreatP26
import Derived.Test.YtjpnlfpompnpkaaGreatP43
namespace Go.Proofs.YtjpnlfpompnpkaaGreat
open Go.RowKit Go.Proofs.Tryz
open Go.Value renaming int->an,slice->av,bool->aw,string->aA,tuple->aM,pointer->aL,agg->aG
open Go.IntKind renaming i64->ar
open Go.Ending renaming returned->ax
open Go.Obj renaming cells->aB
open Go renaming World->ae,Value->ah,Calls->aj,Ending->ak
open Go.RowKit renaming Below->ai
set_option maxRecDepth 100000
set_option linter.all false
set_option maxHeartbeats 2000000
open mX
variable{c:aV}{B:Int}{x x':cB}
def uE(t:(Int->Option Int)×Nat)(id:Int):(∀i a,(dE t id).1 i=some a->t.1 i=some a)/\(dE t id).2<=t.2:=by
 unfold dE sd;refine⟨λi a h=> ?_,?_⟩
 .simp only at h
  split at h
  .cases h
  .exact h
 .simp only
  split<;>omega
def uF(slot:Int):∀(l:List Nat) (t:(Int->Option Int)×Nat),(∀i a,(l.foldl (λt s=>dE t (bY slot (s:Nat))) t).1 i=some a->t.1 i=some a)/\(l.foldl (λt s=>dE t (bY slot (s:Nat))) t).2<=t.2
 | [],t=>⟨λ_ _ h=>h,aP _⟩
 |s::l,t=>by
  have⟨b,d⟩:=uF slot l (dE t (bY slot s));have⟨e,f⟩:=uE t (bY slot s);exact⟨λi a h=>e i a (b i a h),bD d f⟩
def EY(x:cB)(y:ej):EX x (js c x y).1:=by
 have⟨a,b⟩:=uF y.slot (List.range (aZ c).toNat) (x.T,x.tn);exact⟨rfl,a,b⟩
def EZ(x:cB)(y:ej):EX x (eG c x y).1:=by
 unfold eG;simp only;split
 .refine EX.trans ?_ (EY _ _)
  exact⟨rfl,λ_ _ h=>h,aP _⟩
 .exact⟨rfl,λ_ _ h=>h,aP _⟩
def KX(x:cB)(id:Int):EX x (cX c x id).1:=by
 unfold cX;split
 .exact .refl x
 .refine EX.trans ?_ (EY _ _)
  exact⟨rfl,λ_ _ h=>h,aP _⟩
def KY(x:cB)(text:ByteArray)(k n:Int):EX x (dq c x text k n).1:=by
 unfold dq;simp only;split
 .refine EX.trans ?_ (EZ _ _)
  exact⟨rfl,λ_ _ h=>h,aP _⟩
 .exact .refl x
def NX(x:cB)(r:lr):EX x (eX c x r).1:=by
 unfold eX;split
 .exact .refl x
 split
 .exact .refl x
 split
 .exact .refl x
 split
 .exact⟨rfl,λ_ _ h=>h,aP _⟩
 .rename_i y _ _ _ ss _
  have⟨h1,h2⟩:=uE (x.T,x.tn) (bY y.slot r.aR);exact(EX.mk rfl h1 h2:EX x {x with L:=kB c.workers c.aS x.L r.worker r.aW x.now,T:=(dE (x.T,x.tn) (bY y.slot r.aR)).1,tn:=(dE (x.T,x.tn) (bY y.slot r.aR)).2}).trans (EZ _ _)
def NY(x:cB)(m:cd):EX x (dU c x m).1:=by
 unfold dU;split
 .exact⟨rfl,λ_ _ h=>h,aP _⟩
 .exact NX x _
 .exact .refl x
def P2(n:Int)(a:0<=n):∀k,n<=vo n k
 |0=>Int.le_refl _
 |k+1=>by
  have:=P2 n a k;unfold vo;omega
def Wc(b:fX c=true)(x y:Int):1<=kC c.first c.cap c.b_ x y:=by
 have a:=aV.bounds b;obtain⟨g,h,i,j,k,l⟩:1<=c.first/\c.first<=10/\c.first<=c.cap/\c.cap<=50/\0<=c.b_/\c.b_<=10:=⟨a.f1,a.f2,a.p1,a.p2,a.j1,a.j2⟩;have d:clip c.first 1000=c.first:=by unfold clip;omega
 have e:clip c.cap 1000=c.cap:=by unfold clip;omega
 have f:clip c.b_ 1000=c.b_:=by unfold clip;omega
 have m:=P2 c.first (by omega) (clip x 6).toNat;have n:=sH y (c.b_+1) (by omega);unfold kC;rw[d,e,f];omega
structure StW(x x':cB)(n:Nat)(g:Nat):Prop where
 st:PS x'
 lo:x.tn+n<=x'.tn
 hi:x'.tn<=x.tn+g
def Sn(x:cB)(y:ej)(s:Nat)(t:Int):(kD c x y s t).length<=1:=(uz x y s t).2
def Oi(h:cI c B x){y:ej}(g:iH c B x y)(hs:PS x){s:Nat}(hl:s<(aZ c).toNat)(d:Int):StW x (cL c x y s d).1 (cL c x y s d).2.2.length 1:=by
 have j:=aV.bounds h.may;have h1:=j.h1;have k:=Wc h.may;have p:=cW c;have q:=A0 g (s:=s) (by omega);have m:=hs.now;have n:∀(z:En) (a:Int),1<=a->x.T (bY y.slot s)=none->∀l:List fF,l.length<=1->StW x {x with T:=(pd (x.T,x.tn) (bY y.slot s) a).1,tn:=(pd (x.T,x.tn) (bY y.slot s) a).2} l.length 1:=λz a f e l o=>by
  refine⟨⟨m,λi b hi=> ?_⟩,?_,?_⟩
  .simp only[pd,sd]at hi
   split at hi
   .obtain rfl:=Option.some.inj hi
    exact f
   .exact hs.tm i b hi
  .simp only[pd,e]
   simp only[Option.isSome_none,oA,if_false];omega
  .simp only[pd,e]
   simp only[Option.isSome_none,oA,if_false];omega
 unfold cL;simp only;split
 .rename_i e
  refine n default _ ?_ e _ (Sn _ _ _ _);have:=k 0 d;omega
 .rename_i a e
  have f:=hs.tm _ a e;rw[aC (by omega),aC (by omega)];exact⟨hs,aP _,Nat.le_add_right _ _⟩
def xH(a:Int):∀(l:List Int) {B:Int} {x:cB} {y:ej} (b:List fF),cI c B x->0<=B->iH c B x y->PS x->(∀s∈l,0<=s/\s.toNat<(aZ c).toNat)->
 PS (dL c a l x y b).1/\x.tn+(dL c a l x y b).2.2.length<=(dL c a l x y b).1.tn+b.length/\(dL c a l x y b).1.tn<=x.tn+l.length
 | [],B,x,y,b,h,_,d,e,_=>⟨e,aP _,aP _⟩
 |s::l,B,x,y,b,h,i,d,e,f=>by
  have g:=F3 h i d (f s (by simp)).2 a;have⟨j,o,p⟩:=Oi h d e (f s (by simp)).2 a;have⟨k,m,q⟩:=xH a l (b++(cL c x y s.toNat a).2.2) (g.co.mono (B':=B+1) (by omega)) (by omega) g.qy j (λz n=>f z (du _ n));unfold dL;rw[bF]at m;refine⟨k,by omega,?_⟩;rw[cG];omega
def LD(h:cI c B x)(f:0<=B)(b:PS x)(slot:Nat)(a:Int)(l:List fF):PS (lE c x slot a l).1/\x.tn+(lE c x slot a l).2.length<=(lE c x slot a l).1.tn+l.length/\(lE c x slot a l).1.tn<=x.tn+6:=by
 unfold lE;split
 .exact⟨b,aP _,Nat.le_add_right _ _⟩
 split
 .exact⟨b,aP _,Nat.le_add_right _ _⟩
 .rename_i y g
  have⟨i,_⟩:=jQ g;have d:=h.qy y i;have⟨e,j,m⟩:=xH a (ki y.n y.ss y.mt) l h f d b (λs b=>by have:=pR b;rw[d.sl]at this;exact this);have k:=nQ y.n y.ss y.mt;have o:=cW c;rw[d.sl]at k;refine⟨⟨e.now,e.tm⟩,j,?_⟩
  show(dL c a (ki y.n y.ss y.mt) x y l).1.tn<=_
  omega
def uL(h:cI c B x)(b:0<=B)(d:PS x)(a:Int):∀k:Nat,StW x (dM c x a k).1 (dM c x a k).2.length (6*k)
 |0=>⟨d,aP _,aP _⟩
 |k+1=>by
  have⟨e,g,i⟩:=uL h b d a k;have⟨f,j,l⟩:=LD (ni h b a k) (by omega) e k a (dM c x a k).2;unfold dM;exact⟨f,by omega,by omega⟩
def Oj(h:cI c B x)(b:0<=B)(d:PS x)(a:Int):StW x (iD c x a).1 (iD c x a).2.length 24:=by
 have⟨e,f,g⟩:=uL h b d a c.slots.toNat;have:=(aV.bounds h.may).s2;exact⟨e,f,by unfold iD;omega⟩
def Cd(a:Int):∀(l:List fF) (x:di) (r:cS),(dh c x r a l).2.sent.length<=r.sent.length+l.length
 | [],_,_=>aP _
 |y::l,x,r=>by
  have e:dh c x r a (y::l)=dh c (cF c a (x,r) y).1 (cF c a (x,r) y).2 a l:=rfl;have h:=Cd a l (cF c a (x,r) y).1 (cF c a (x,r) y).2;have b:(cF c a (x,r) y).2.sent.length<=r.sent.length+1:=by
   unfold cF;split
   .simp
   .simp
  rw[e,cG];omega
def Ok{n:Nat}{x:di}(h:f_ c n x)(hs:PS x.co){e:cO}(b:e.kind=4)(d:e.node=0):StW x.co (bC c x e).1.co (bC c x e).2.sent.length 24:=by
 have a:=Oj h.co (by omega) hs e.x;unfold bC cM;rw[aC (by omega),aC (by omega),aC (by omega),aI b,d,aI (by omega)];unfold gM;rw[aI rfl,(eF 0 _ _ _).1];refine⟨a.st,?_,a.hi⟩;have h1:=Cd (c:=c) 0 (iD c x.co e.x).2 {x with co:=(iD c x.co e.x).1} ⟨e,0,0,[],-1,[]⟩;have h2:=a.lo;simp only[dx,eJ]at h1;exact bD (Nat.add_le_add_left h1 _) h2
def A6(x:di){e:cO}(m:e.kind≠3)(n:¬(e.kind=4/\e.node=0)):EX x.co (bC c x e).1.co:=by
 unfold bC cM;by_cases d:e.kind=1
 .rw[aI d]
  simp only;rw[(eF 0 _ _ _).1];exact KY _ _ _ _
 rw[aC d];by_cases f:e.kind=2
 .rw[aI f,(eF 0 _ _ _).1]
  exact KX _ _
 rw[aC f,aC m];by_cases b:e.kind=4
 .rw[aI b]
  split
  .rw[(eF _ _ _ _).1]
   unfold gM;rw[aC (λh=>n ⟨b,h⟩)];split<;>exact .refl _
  .exact .refl _
 rw[aC b];by_cases g:e.kind=5
 .rw[aI g]
  unfold eE;split
  .simp only
   split
   .exact .refl _
   .split
    .rw[(eF _ _ _ _).1]
     unfold fL;split
     .exact NY _ _
     .show EX _ (di.upd _ _ _).co
      rw[ja];exact .refl _
    .exact .refl _
  .exact .refl _
 rw[aC g];by_cases i:e.kind=6
 .rw[aI i]
  split<;>exact .refl _
 rw[aC i];by_cases j:e.kind=7
 .rw[aI j];exact .refl _
 rw[aC j];by_cases k:e.kind=8
 .rw[aI k];exact .refl _
 rw[aC k];by_cases l:e.kind=9
 .rw[aI l,ja];exact .refl _
 rw[aC l];by_cases a:e.kind=10
 .rw[aI a,ja];exact .refl _
 rw[aC a];split
 .rw[ja];exact .refl _
 .exact .refl _
def So:PS (gA c).co/\(gA c).co.tn=0:=⟨⟨rfl,λ_ _ h=>by cases h⟩,rfl⟩
open Go.ChangeMaps
variable{P:Tg->Prop}{τ br:cj}{w w' y z:ae}
def ace(c:aV)(v:ah)(es:List cO)(w:ae)(hc:c.rd w)(hes:aT cO.cells 7 w v es)(he:∀e∈es,te e):aj prog 11 #[c.val,v] w λe w'=>e=ax (aw true)/\ai w w w':=by
 have⟨u,hu⟩:=aD (w.alloc (aB c.cells.toArray 25 (0,0)));have⟨hbx,hg,hl2⟩:=aV.box hu;have W:=hl2.aJ;have hb0:u.heap[w.heap.size]? =some (aB c.cells.toArray 25 (0,0)):=by rw[hu];exact a_ _ _
 have⟨q,hq⟩:=aD w.heap.size;rw[<-hq]at hb0 hbx;have⟨Er,qH,CN,oM⟩:=c_ (hes.below W) (hc.below W) he (qe (hc.below W) (hes.below W) 200 (by decide));have⟨Q,hQ⟩:= @aD (ak->ae->Prop) (λe w'=>e=ax (aw true)/\ai w w w');have K9:=au (show∀y,ai u u y->Q (ax (aw true)) y fromλy K=>by rw[hQ];exact⟨rfl,W.trans (K.mono W.size)⟩);have uG:=au (show∀y,ai u u y->aj prog 14 #[] y λe z=>e=ax (aw true)/\Q (ax (aw true)) z fromλy K=>(nS y).mono λe z ⟨h1,h2⟩=>⟨h1,K9.o z (K.trans (h2.mono K.size))⟩);rw[<-hQ];have⟨C,hC⟩:=aD c;rw[<-hC]at oM qH;obtain⟨wv,cv,words,cuts,d,l,s,t,aS,x,first,cap,n,net⟩:=c;have th:=au (show∀y,ai u u y->q<y/\y.cell? q=(wv)/\y.cell? ⟨q,1,none⟩=(cv)/\y.cell? ⟨q,2,none⟩=d/\y.cell? ⟨q,3,none⟩=l/\y.cell? ⟨q,4,none⟩=s/\y.cell? ⟨q,5,none⟩=t/\y.cell? ⟨q,6,none⟩=aS/\y.cell? ⟨q,7,none⟩=x/\y.cell? ⟨q,8,none⟩=first/\y.cell? ⟨q,9,none⟩=cap/\y.cell? ⟨q,10,none⟩=n/\y.cell? ⟨q,11,none⟩=net fromλy K=>by
  have r:=(K.block q (az hb0)).trans hb0;exact⟨az r,aF r _ rfl,aF r _ rfl,aF r _ rfl,aF r _ rfl,aF r _ rfl,aF r _ rfl,aF r _ rfl,aF r _ rfl,aF r _ rfl,aF r _ rfl,aF r _ rfl,aF r _ rfl⟩)
 have vR:=au (show C.val=aG #[wv,cv,d,l,s,t,aS,x,first,cap,n,net]by rw[hC];rfl);have hval:aV.val ⟨wv,cv,words,cuts,d,l,s,t,aS,x,first,cap,n,net⟩=aG #[wv,cv,d,l,s,t,aS,x,first,cap,n,net]:=rfl;have⟨HU,HQ⟩:=aK (show u=w.alloc (aB #[wv,cv,d,l,s,t,aS,x,first,cap,n,net] 25 (0,0))from hu) hq;rw[hval];rw[vR.o]at oM;have⟨ql,h0,h1,h2,h3,h4,h5,h6,h7,h8,h9,h10,h11⟩:=th.o u (aO _ _);obtain⟨va,vc,rfl,hn1,hn2,hrd⟩:=hes;unfold maxLen at hn1;have HRE:=au hrd;have⟨N,hN⟩:=aD es.length;have HN:=au hN;rw[<-hN]at hn1 hn2 oM⊢;have⟨HB0,ZH⟩:=aK hb0 W;clear hQ hu hbx hl2 W hq hval hC hb0 hrd hN hc he;go_in;go_upto_region 1 with fail
 rw[<-HU.o,<-HQ.o];go_wp2_with fail
 refine oM.m ?_;rintro e y0 ⟨b,rfl,L,hbf⟩;have ZI:=au L;obtain rfl|rfl:=Bool.eq_false_or_eq_true b
 .have HA:=au (uG.o y0 L)
  clear hbf L;go_wp2_with fail
  refine HA.m ?_;rintro e y1 ⟨rfl,hy1⟩;have HE:=au hy1;clear hy1;go_wp2;exact HE.o
 .have⟨hok,hle,X⟩:=hbf rfl
  have hev:=rF X CN.o;have O0:N<=200:=by omega
  have La:=au (show aT cO.cells 7 y0 (av va N vc) es by
   have:=Er.o.below L;rw[<-HN.o]at this;exact this)
  have CA:=au (show∀y,ai y0 y0 y->aj prog 14 #[] y λe z=>e=ax (aw true)/\Q (ax (aw true)) z fromλy K=>uG.o y (L.trans (K.mono L.size)));have J_:=au (show∀k,k<es.length->∃b o,va=some ⟨b,o,none⟩/\b<y0.heap.size/\∀j v,(es.getD k ()).cells[j]? =some v->y0.cell? ⟨b,o+k*7+j,none⟩=some v by
   have⟨a',c',e1,_,_,hr2⟩:=La.o;simp only[bG]at e1;obtain⟨rfl,_,_⟩:=e1;exact hr2)
  have E8:=au (tz (c:=C) (hok.below L));rw[vR.o]at E8;have⟨V,Y⟩:= @aD (Nat->Int) (λk=>((bW C (bp (es.take k) 3 3)).co.tn:Int));have⟨SI,M⟩:= @aD (Nat->Nat->ae->Prop) (λf k y=>Cz C f (λb=>b<y0.heap.size) y0 (bp (es.take k) 3 3) y/\PS (bW C (bp (es.take k) 3 3)).co);have⟨D7,HTN,qL,HTP,HB0,sB⟩:=eC M Y hev (show∀k,0<=V k fromλk=>by rw[Y];simp only;omega) (show∀f k y,SI f k y->ai y0 y0 y fromλf k y Z=>by rw[M]at Z;exact Z.1.below (λ_ h=>h) (aP _)) (show∀f k y z,SI f k y->ai y y z->SI f k z fromλf k y z Z r=>by rw[M]at Z⊢;exact⟨Z.1.E5 r,Z.2⟩);have Jt:=au (show∀f k y,k<=es.length->SI f k y->∃cb,aj prog 29 #[aL (some ⟨f,0,none⟩)] y (λe z=>e=ax (aL (some ⟨cb,0,none⟩))/\y=z)/\
   aj prog 36 #[aL (some ⟨cb,0,none⟩)] y (λe z=>e=ax (V k:Int)/\y=z)fromλf k y hk Z=>by
   rw[M]at Z;have:=N0 es 3 k;have:=HN.o;have⟨cb,k1,_,k2,_⟩:=Z.1.ls.co (by omega);rw[Y];exact⟨cb,k1,k2⟩)
  have HTK:=au (show∀f k y,(hk:k<es.length)->SI f k y->(es[k]).kind=3->SI f (k+1) y/\V (k+1)=V k fromλf k y hk Z h3=>by
   have e:=Gi hk 3;rw[aI h3]at e;rw[M]at Z⊢;rw[Y];simp only;rw[e];exact⟨Z,rfl⟩)
  have HST:=au (show∀f k y,(hk:k<es.length)->SI f k y->∀J nd B ex tx ek en,es[k]=⟨J,nd,B,ex,tx,ek,en⟩->J≠3->aj prog 24 #[aL (some ⟨f,0,none⟩),aG #[an ar J,an ar nd,an ar B,an ar ex,aA tx,an ar ek,an ar en]] y (λe z=>∃(vd id:Int) (sa:Option Addr) (sn sk:Nat) (la:Option Addr) (ln lk:Nat) (got:Int),e=ax (aG #[an ar J,an ar nd,an ar B,an ar ex,aA tx,an ar ek,an ar en,vd,id,av sa sn sk,(got:Int),av la ln lk])/\SI f (k+1) z/\(sn:Int)<=24/\(J=4->nd=0->V k+(sn:Int)<=V (k+1)/\V (k+1)<=V k+24)/\(¬(J=4/\nd=0)->V (k+1)<=V k))fromλf k y hk Z J nd B ex tx ek en hE h3=>by
   have e:=Gi hk 3;rw[aC (by rw[hE];exact h3)]at e;rw[M]at Z;obtain⟨h1,h2⟩:=Z;have hl:=N0 es 3 k;have hn:=HN.o;have hvl:(es[k]).vl=aG #[an ar J,an ar nd,an ar B,an ar ex,aA tx,an ar ek,an ar en]:=by rw[hE];rfl
   have F:=h1.VP (aO _ _) (by omega) (es[k]) (qL.o _ (eA hk));rw[hvl]at F;refine F.mono ?_;rintro en' z ⟨sa,sn,sk,la,ln,lk,rfl,g1,g2,_⟩;have⟨r1,r2⟩:=E3 C (bp (es.take k) 3 3) (es[k]);have hr:=rY (c:=C) (bW C (bp (es.take k) 3 3)) (es[k]);have hbd:=(zO h1.ls.ok (es[k])).1;have Z:sn=(bC C (bW C (bp (es.take k) 3 3)) (es[k])).2.sent.length:=by
    obtain⟨_,_,e,_⟩:=g2;simp only[bG]at e;exact e.2.1
   have hw:=λ(a:(es[k]).kind=4) (b:(es[k]).node=0)=>Ok h1.ls.ok h2 a b
   have hq:=λ(a:¬((es[k]).kind=4/\(es[k]).node=0))=>A6 (c:=C) (bW C (bp (es.take k) 3 3)) (e:=es[k]) (by rw[hE];exact h3) a
   have hT:V (k+1)=((bC C (bW C (bp (es.take k) 3 3)) (es[k])).1.co.tn:Int):=by rw[Y];simp only;rw[e,r1]
   have hT0:V k=((bW C (bp (es.take k) 3 3)).co.tn:Int):=by rw[Y]
   refine⟨(bC C (bW C (bp (es.take k) 3 3)) (es[k])).2.verdict,(bC C (bW C (bp (es.take k) 3 3)) (es[k])).2.id,sa,sn,sk,la,ln,lk,(bC C (bW C (bp (es.take k) 3 3)) (es[k])).2.got,?_,?_,by omega,?_,?_⟩
   .show Ending.returned (qC _ _ _ _ _ _ _ _ _ _ _ _)=_
    rw[hr,hE];rfl
   .rw[M]
    simp only;rw[e,r1];refine⟨g1,?_⟩;by_cases h4:(es[k]).kind=4/\(es[k]).node=0
    .exact(hw h4.1 h4.2).st
    .exact h2.less (hq h4)
   .rw[hT,hT0,Z]
    intro a b;have:=hw (by rw[hE];exact a) (by rw[hE];exact b);have h5:=this.lo;have h6:=this.hi;omega
   .rw[hT,hT0]
    intro a;have:=(hq (by rw[hE];exact a)).tn;omega)
  have Ml:=au (show∀f y,rC C f (λb=>b<y0.heap.size) (gA C) [] 0 y->ai y0 y0 y->SI f 0 y fromλf y hl K=>by
   rw[M];exact⟨⟨hl,Kp.of_below K _,λ_ h=>h⟩,So.1⟩)
  have HT0:=au (show V 0=0 by rw[Y];rfl);have⟨ql,h0,h1,h2,h3,h4,h5,h6,h7,h8,h9,h10,h11⟩:=th.o y0 L;clear hok hle X hev hbf L M Y;go_wp2_with fail
  refine E8.m ?_;rintro e y1 ⟨hy1,⟨hm,rfl⟩|⟨hm,f,rfl,hl⟩⟩
  .have HE:=au (CA.o y1 hy1)
   clear h0 h1 h2 h3 h4 h5 h6 h7 h8 h9 h10 h11 ql hy1 hm;go_wp2_with fail
   refine HE.m ?_;rintro e y2 ⟨rfl,hy2⟩;have HE2:=au hy2;clear hy2;go_wp2;exact HE2.o
  .have Pu:=au (Ml.o f y1 hl hy1)
   clear hl hy1 hm h0 h1 h2 h3 h4 h5 h6 h7 h8 h9 h10 h11 ql;go_wp2;go_loopw [6,7,8] (λa g i wr=>∃(k:Nat) (A G:Int),k<=N/\a=an ar A/\g=an ar G/\i=an ar k/\0<=A/\A<=G+V k/\0<=G/\G+V k<=24*(k:Int)/\SI f k wr) (λ_ _ i _=>N-(intOf i).toNat)
   case atStart=>exact⟨0,0,0,bz _,rfl,rfl,rfl,Int.le_refl _,by rw[HT0.o];decide,Int.le_refl _,by rw[HT0.o];decide,Pu.o⟩
   case round=>
    obtain⟨k,A,G,hk,rfl,rfl,rfl,sr,hA,hG0,hG,O⟩:=hrel;by_cases hlt:k<N
    .have hkl:k<es.length:=by rw[<-HN.o];exact hlt
     obtain⟨b,o,rfl,r,H⟩:=J_.o k hkl;have hgd:es.getD k ()=es[k]:=by simp[aU,hkl]
     rw[hgd]at H;have htk:=HTK.o f k wr hkl O;have F:=HST.o f k wr hkl O;have X:=(qL.o _ (eA hkl)).2;have⟨E,hE⟩:=aD (es[k]);rw[<-hE]at H X htk F;obtain⟨J,nd,B,ex,tx,ek,en⟩:=E;simp only at X htk;have WA:=au (show∀y,ai y0 y0 y->b<y.heap.size/\y.cell? ⟨b,o+k*7,none⟩=some (an ar J)/\y.cell? ⟨b,o+k*7+1,none⟩=some (an ar nd)/\y.cell? ⟨b,o+k*7+2,none⟩=some (an ar B)/\y.cell? ⟨b,o+k*7+3,none⟩=some (an ar ex)/\y.cell? ⟨b,o+k*7+4,none⟩=some (aA tx)/\y.cell? ⟨b,o+k*7+5,none⟩=some (an ar ek)/\y.cell? ⟨b,o+k*7+6,none⟩=some (an ar en)fromλy K=>⟨bP r K.size,by simpa using(K.cell (p:=⟨b,o+k*7+0,none⟩) r).trans (H 0 (an ar J) rfl),(K.cell (p:=⟨b,o+k*7+1,none⟩) r).trans (H 1 (an ar nd) rfl),(K.cell (p:=⟨b,o+k*7+2,none⟩) r).trans (H 2 (an ar B) rfl),(K.cell (p:=⟨b,o+k*7+3,none⟩) r).trans (H 3 (an ar ex) rfl),(K.cell (p:=⟨b,o+k*7+4,none⟩) r).trans (H 4 (aA tx) rfl),(K.cell (p:=⟨b,o+k*7+5,none⟩) r).trans (H 5 (an ar ek) rfl),(K.cell (p:=⟨b,o+k*7+6,none⟩) r).trans (H 6 (an ar en) rfl)⟩);have X:tx.size<=maxLen:=bD X (by decide);have F:=F J nd B ex tx ek en rfl;have q1:(0:Int)<=(k:Int):=by omega
     have q2:(k:Int)<(N:Int):=by omega
     have htp:=HTP.o k;have alf:=HTP.o (k+1);have⟨cb,T,I⟩:=Jt.o f k wr (by omega) O;have HKN:=au (show k+1<=es.length by omega);have⟨T1,hT1⟩:=aD (V k);have⟨T2,hT2⟩:=aD (V (k+1));rw[<-hT1]at hA hG htp I F htk;rw[<-hT2]at alf F htk;have U:=au hT2;have anA:(k:Int)<200:=by omega
     have⟨bl,p0,p1,p2,p3,p4,p5,p6⟩:=WA.o wr (HB0.o _ _ _ O);by_cases c3:J=3
     .have⟨h1,h2⟩:=htk c3
      have Ml:=au h1;have b3:(J==3)=true:=by simp[c3]
      have HX:=au h2;clear H hgd hE r O hkl X F htk T I hT1 hT2 h1 h2 c3;go_wp2;go_roundw
      case rel=>exact⟨k+1,A,G,by omega,rfl,rfl,by go_num,sr,by rw[<-U.o,HX.o];exact hA,hG0,by rw[<-U.o,HX.o];omega,Ml.o⟩
      case measure=>simp[intOf];omega
     .have b3:(J==3)=false:=by simp[c3]
      have⟨LG,se,qS⟩:=aX (F c3) T I;clear H hgd hE r O hkl F htk T I hT1 hT2 c3;go_wp2_with fail
      refine aH se.o ?_;go_wp2_with fail
      refine aH qS.o ?_;go_wp2_with fail
      refine LG.m ?_;rintro e z ⟨vd,id,sa,sn,sk,la,ln,lk,got,rfl,hz,ar0,hwk,hno⟩;have⟨z2,hz2⟩:=aD (z.alloc (aB #[an ar J,an ar nd,an ar B,an ar ex,aA tx,an ar ek,an ar en,vd,id,av sa sn sk,(got:Int),av la ln lk] 45 (0,0)));have hbx:z2.heap[z.heap.size]? =some (aB #[an ar J,an ar nd,an ar B,an ar ex,aA tx,an ar ek,an ar en,vd,id,av sa sn sk,(got:Int),av la ln lk] 45 (0,0)):=by rw[hz2];exact a_ _ _
      have hbz:ai z z z2:=by rw[hz2];exact(aO _ _).alloc (aP _) _
      have hsz:=sB.o _ _ _ _ hz hbz;have⟨HS2,HZ2⟩:=aK hsz hz2;have⟨cb2,T,I⟩:=Jt.o f (k+1) z2 HKN.o hsz;rw[<-U.o]at I;have⟨HC3,HC4⟩:=aK T I;have d9:=aF hbx 9 rfl;have zl:=az hbx;have⟨bl',g0,g1,g2,g3,g4,g5,g6⟩:=WA.o z2 (HB0.o _ _ _ hsz);clear hz2 hbx hbz hz hsz T I p0 p1 p2 p3 p4 p5 p6 bl b3;go_upto_region 13 with fail
      rw[<-HZ2.o];go_wp2_with fail
      refine aH HC3.o ?_;go_wp2_with fail
      refine aH HC4.o ?_;by_cases c4:J=4/\nd=0
      .have⟨hw1,hw2⟩:=hwk c4.1 c4.2
       have b4:(J==4)=true:=by simp[c4.1]
       have b5:(nd==0)=true:=by simp[c4.2]
       have r1:¬T2-T1<(sn:Int):=by omega
       have r2:¬T2<T1:=by omega
       have r3:¬T1>T2:=by omega
       clear c4 hwk hno;go_wp2;go_roundw
       case rel=>exact⟨k+1,A+sn,G,by omega,by go_num,rfl,by go_num,by omega,by rw[<-U.o];omega,hG0,by rw[<-U.o];omega,HS2.o⟩
       case measure=>simp[intOf];omega
      .have hle:=hno c4
       have alg:((J==4)=true/\(nd==0)=false)∨(J==4)=false:=by
        by_cases c5:J=4
        .exact .inl ⟨by simp[c5],by simp[show nd≠0 fromλh=>c4 ⟨c5,h⟩]⟩
        .exact .inr (by simp[c5])
       have r1:¬T1<T2:=by omega
       clear c4 hwk hno;obtain⟨b4,b5⟩|b4:=alg
       all_goals
        by_cases c6:T2<T1
        .go_wp2
         go_roundw
         case rel=>exact⟨k+1,A,G+T1-T2,by omega,rfl,by go_num,by go_num,sr,by rw[<-U.o];omega,by omega,by rw[<-U.o];omega,HS2.o⟩
         case measure=>simp[intOf];omega
        .go_wp2
         go_roundw
         case rel=>exact⟨k+1,A,G,by omega,rfl,rfl,by go_num,sr,by rw[<-U.o];omega,hG0,by rw[<-U.o];omega,HS2.o⟩
         case measure=>simp[intOf];omega
    .obtain rfl:k=N:=by omega
     have⟨cb,T,I⟩:=Jt.o f k wr (Nat.le_of_eq HN.o) O;have⟨se,qS,HE⟩:=aX T I (CA.o wr (HB0.o _ _ _ O));have htp:=HTP.o k;have⟨T1,hT1⟩:=aD (V k);rw[<-hT1]at hA hG htp qS;clear O T I hT1;go_wp2_with fail
     refine aH se.o ?_;go_wp2_with fail
     refine aH qS.o ?_;have hle:A<=G+T1:=hA;go_wp2_with fail
     refine HE.m ?_;rintro e y2 ⟨rfl,hy2⟩;have HE2:=au hy2;clear hy2;go_wp2;exact HE2.o
open Go.ChangeShapes Go.WideShapes Go.ChangeAt
def yK(y:Os)(a:y.Started)(H:Type)(enc:TypeId×ah->H):
 ReturnsInHanded {} Tryz.checked y 11 .any (Rows.topStillSpec.pre6 enc prog Tryz.f11 Rows.topStillRow.domain false) (Rows.topStillSpec.post enc prog Tryz.f11 false true false false):=by
 refine returnsInHanded_of_change (C:=Tryz.checked) Hi a (by kernel_rfl) func11
  (ChangeSpec.witness6 (enc:=enc) (C:=Tryz.checked) false ⟨#[],#[aG #[(),(),an ar 0,an ar 0,an ar 0,an ar 0,an ar 0,an ar 0,an ar 0,an ar 0,an ar 0,an ar 0],()],[]⟩ 8 (by kernel_rfl) (by kernel_rfl) (by kernel_rfl) (by kernel_rfl)) ?_
 intro W base args J gs f b z _ _;have c:∀(j:Nat) t v,Tryz.f11.params[j]? =some t->args[j]? =some v->Value.okWide prog W .any base t v:=b
 have g:=z;obtain⟨p,q,sr,K,rfl,_,_⟩:=z;have A:DataW.TrodAll enc prog W 0 (λ_=>true) true Tryz.f11.params.toList args.toList J p:=sr;rw[Tryz.params11]at A c;obtain⟨B,L,d0,M,N,q0,i,rfl,rfl,E,O⟩:=trodAll_cons A;obtain⟨k,P,d1,Q,T,q1,rfl,rfl,rfl,F,U⟩:=trodAll_cons O;obtain⟨rfl,rfl,rfl⟩:=trodAll_nil U;obtain rfl:args= #[B,k]:=by cases args;simp_all
 obtain⟨rfl,rfl⟩:=trodVars_none K;have G:=E;have l:∀x∈N,x.block<W.heap.size:=by obtain⟨m,n⟩:=G;exact DataW.trod_lt m _ _ _ n
 obtain⟨V,rfl,o,X,Y⟩:=gW (c 0 25 B rfl rfl) E;have I:=F;have r:∀x∈T,x.block<W.heap.size:=by obtain⟨m,n⟩:=I;exact DataW.trod_lt m _ _ _ n
 have⟨s,u,w⟩:=fN (c 1 26 k rfl rfl) F;clear sr b;refine(ace V k s W o u w).mono λe W' ⟨Z,d⟩=> ?_
 subst Z;exact⟨_,rfl,_,_,_,[],_,[],g,trodAll_mk1 (shut_bool underlying4 _),(trodAll_cons_mk (Below.trod oJ (by kernel_rfl) (of_decide_eq_true (by kernel_rfl)) G d l) (trodAll_cons_mk (Below.trod oJ (by kernel_rfl) (of_decide_eq_true (by kernel_rfl)) I d r) trodAll_mk0)),rfl,d.frame _,λh=>by cases h⟩
theorem Wd:Rows.TopStillSaid:=
 OpenClaim.holds_of_wide 11 Tryz.f11 rfl rfl rfl rfl rfl rfl rfl ⟨rfl,rfl,rfl,rfl,rfl⟩ rfl rfl rfl rfl rfl (by kernel_rfl) func11 Cc
  (of_decide_eq_true (by kernel_rfl)) (by unfold Func.isWrapper;rw[aC (of_decide_eq_false (by kernel_rfl))];exact⟨rfl,rfl⟩)
  (λb a H enc _=>yK b a H enc)
end Go.Proofs.YtjpnlfpompnpkaaGreat
