/-
  The law TopCancelled: for every input it returns true, and its arguments read as they did; under no condition but the row's.
-/
import Derived.Test.YtjpnlfpompnpkaaGreatP27
import Derived.Test.YtjpnlfpompnpkaaGreatP28
import Derived.Test.YtjpnlfpompnpkaaGreatP31
namespace Go.Proofs.YtjpnlfpompnpkaaGreat
open Go.RowKit Go.Proofs.Tryz
open Go.Value renaming int->an,slice->av,bool->aw,string->aA,tuple->aM,pointer->aL,agg->aG
open Go.IntKind renaming i64->ar
open Go.Ending renaming returned->ax
open Go.Obj renaming cells->aB
open Go renaming World->ae,Value->ah,Calls->aj,Ending->ak
open Go.RowKit renaming Below->ai
set_option maxRecDepth 100000
set_option linter.all false
set_option maxHeartbeats 2000000
open Go.ChangeMaps mX
variable{P:Tg->Prop}{τ br:cj}{w w':ae}{c:aV}{xb rb np:Nat}{rs:List cS}{v:ah}{ls:List fF}{E:List (Nat×Obj)}{s:di×cS}{wr y:ae}
def dN.stp(h:dN c xb rb np rs v ls E τ w s wr):StP c xb rb s.1 s.2 rs τ w wr:=by
 obtain⟨br,m,a,b,d,g,e,f,_⟩:=h;exact⟨br,m,a,b,d,e,f⟩
variable{x:cB}
variable{B:Int}{k:Nat}
def PT(h:jf x)(a:cI c B x){y:ej}(b:y∈x.qs)(d:k<x.told.length)(f:(x.told.getD k ()).live=false):k≠(y.id-1).toNat:=by
 intro e;have⟨g,i,j⟩:=a.idx b;have:=(h.op k d).2 ⟨y,b,by rw[e];omega⟩;rw[f]at this;cases this
def Gk(h:jf x)(a:cI c B x)(id:Int)(b:k<x.told.length)(d:(x.told.getD k ()).live=false):(cX c x id).1.told.getD k ()=x.told.getD k ()/\(cX c x id).1.told.length=x.told.length:=by
 unfold cX;split
 .exact⟨rfl,rfl⟩
 .rename_i y e
  have⟨f,g⟩:=VU e;have:=PT h a f b d;rw[g]at this;rw[pr];exact⟨nT _ _ _ this,rG _ _ _⟩
def K6(h:jf x)(a:cI c B x)(r:lr)(d:k<x.told.length)(hl:(x.told.getD k ()).live=false):(eX c x r).1.told.getD k ()=x.told.getD k ()/\(eX c x r).1.told.length=x.told.length:=by
 unfold eX;split
 .exact⟨rfl,rfl⟩
 .split
  .exact⟨rfl,rfl⟩
  .rename_i y e
   have b:=PT h a (VU e).1 d hl;split
   .exact⟨rfl,rfl⟩
   .split
    .exact⟨rfl,rfl⟩
    .rename_i ss _
     exact Bp _ {y with ss:=ss} b
def K7(h:jf x)(a:cI c B x)(m:cd)(b:k<x.told.length)(d:(x.told.getD k ()).live=false):(dU c x m).1.told.getD k ()=x.told.getD k ()/\(dU c x m).1.told.length=x.told.length:=by
 unfold dU;split
 .exact⟨rfl,rfl⟩
 .exact K6 h a _ b d
 .exact⟨rfl,rfl⟩
def R4{n:Nat}{x:di}(h:f_ c n x)(e:cO)(b:k<x.co.told.length)(g:(x.co.told.getD k ()).live=false):(bC c x e).1.co.told.getD k ()=x.co.told.getD k ()/\x.co.told.length<=(bC c x e).1.co.told.length:=by
 have a:∀y:cB,y.told=x.co.told->y.told.getD k ()=x.co.told.getD k ()/\x.co.told.length<=y.told.length:=λy e=>by rw[e];exact⟨rfl,aP _⟩
 unfold bC cM;by_cases z:e.kind=1
 .rw[if_pos z,(eF 0 _ _ _).1];exact qf h.co _ _ _ b
 rw[if_neg z];split
 .rw[(eF 0 _ _ _).1]
  have⟨d,f⟩:=Gk h.td h.co e.at' b g;exact⟨d,Nat.le_of_eq f.symm⟩
 split
 .exact a _ rfl
 split
 .split
  .rw[(eF _ _ _ _).1]
   refine a _ ?_;unfold gM;split
   .exact oy _ _ _
   .split<;>rfl
  .exact a _ rfl
 split
 .unfold eE
  split
  .simp only
   split
   .exact a _ rfl
   .split
    .rw[(eF _ _ _ _).1]
     unfold fL;split
     .rename_i m _ _ _
      have⟨d,f⟩:=K7 h.td h.co m b g;exact⟨d,Nat.le_of_eq f.symm⟩
     .refine a _ ?_
      show(di.upd _ _ _).co.told=_
      rw[ja]
    .exact a _ rfl
  .exact a _ rfl
 split
 .split<;>exact a _ rfl
 split
 .exact a _ rfl
 split
 .exact a _ rfl
 split
 .exact a _ (by rw[ja])
 split
 .exact a _ (by rw[ja])
 split
 .exact a _ (by rw[ja])
 .exact a _ rfl
def Bt:∀(l:List cO) {n:Nat} {x:di},f_ c n x->∀{k:Nat},k<x.co.told.length->(x.co.told.getD k ()).live=false->(cT c x l).1.co.told.getD k ()=x.co.told.getD k ()/\x.co.told.length<=(cT c x l).1.co.told.length
 | [],_,_,_,_,_,_=>⟨rfl,aP _⟩
 |e::l,n,x,h,k,d,a=>by
  have⟨b,f⟩:=R4 h e d a;have⟨g,i⟩:=Bt l (rW h e) (k:=k) (by omega) (by rw[b];exact a);unfold cT;exact⟨g.trans b,bD f i⟩
def K8{n:Nat}{x:di}(h:f_ c n x){e:cO}(d:e.kind=2)(b:k<x.co.told.length)(f:e.at'=(k:Int)+1):
 (bC c x e).1.co.told=if(x.co.told.getD k ()).live then x.co.told.set k (CR (x.co.told.getD k ()))else x.co.told:=by
 have g:(bC c x e).1.co=(cX c x.co e.at').1:=by
  unfold bC cM;rw[aC (by omega),aI d,(eF 0 _ _ _).1]
 rw[g,f];unfold cX;split
 .rename_i a
  rw[aC];intro i;have⟨y,j,hid⟩:=(h.td.op k b).1 i;unfold cB.q at a;have:=List.find?_eq_none.1 a y j;simp[hid]at this
 .rename_i y a
  have⟨l,m⟩:=VU a;rw[aI ((h.td.op k b).2 ⟨y,l,m⟩)]
  show(x.co.told.set ((k:Int)+1-1).toNat _)=_
  have e:((k:Int)+1-1).toNat=k:=by omega
  rw[e];rfl
variable{u z z0:ae}{K:Nat->Prop}{L:List cO}
def aay{b o:Nat}{kd nd d f i l:Int}{m:ByteArray}(q:ai z0 z0 y)(r:b<z0)(h:∀j v,(cO.mk kd nd d f m i l).cells[j]? =some v->z0.cell? ⟨b,o+k*7+j,none⟩=some v):b<y/\y.cell? ⟨b,o+k*7,none⟩=kd/\y.cell? ⟨b,o+k*7+1,none⟩=nd/\y.cell? ⟨b,o+k*7+2,none⟩=d/\y.cell? ⟨b,o+k*7+3,none⟩=f/\y.cell? ⟨b,o+k*7+4,none⟩=some (aA m)/\y.cell? ⟨b,o+k*7+5,none⟩=i/\y.cell? ⟨b,o+k*7+6,none⟩=l:=
 have g:=λj v e=>(q.cell (p:=⟨b,o+k*7+j,none⟩) r).trans (h j v e)
 ⟨bP r q.size,g 0 _ rfl,g 1 _ rfl,g 2 _ rfl,g 3 _ rfl,g 4 _ rfl,g 5 _ rfl,g 6 _ rfl⟩
variable{a:Option Addr}{n:Nat}
def aaf{es:List cO}{m:Nat}(h:aT cO.cells 7 y (av a n m) es):∀k,k<es.length->∃b o,a=some ⟨b,o,none⟩/\b<y.heap.size/\∀j v,(es.getD k ()).cells[j]? =some v->y.cell? ⟨b,o+k*7+j,none⟩=some v:=by
 obtain⟨f,i,e,_,_,d⟩:=h;simp only[bG]at e;obtain⟨rfl,_,_⟩:=e;exact d
variable{g:Option Nat}
def aad{m:Nat}{b:List aY}(h:Seg y 83 2 g (av a n m) (dT b) n)(d:n=b.length)(e:ai y y z):aT rK 2 z (av a n m) b:=by
 subst d;exact aT.gP (h.bH (ch e) (by simp)) (λ_=>rfl) (by decide)
def Cz.stp(h:Cz c xb K z0 L y)(f:L.length<=4000){e:cO}(d:tj e):aj prog 24 #[xb,e.vl] y λb z=>∃v,b=ax v/\Cz c xb K z0 (L++ [e]) z:=
 (h.VP (aO _ _) (by omega) e d).mono λb z h=>by
  obtain⟨_,_,_,_,_,_,rfl,g,_⟩:=h;exact⟨_,rfl,g⟩
def rC.tells{x:di}{rs:List cS}(h:rC c xb K x rs n y)(B:n<=5000){j:Nat}(f:j<x.co.told.length):∃i,∀z,ai y y z->
 aj prog 29 #[xb] z (λe d=>e=ax (aL (some ⟨i,0,none⟩))/\z=d)/\
 aj prog 34 #[aL (some ⟨i,0,none⟩),an ar ((j:Int)+1)] z λe d=>∃a k g,e=ax (aM #[xB (x.co.told[j]) (av a (x.co.told[j]).items.length k),aw true])/\Seg d 83 2 g (av a (x.co.told[j]).items.length k) (dT (x.co.told[j]).items) (x.co.told[j]).items.length/\(∀b,g=some b->z.heap.size<=b)/\ai z z d:=by
 obtain⟨⟨p,m,q,rfl,C⟩,r,E⟩:=h;refine⟨m.co.cb,λz s=> ?_⟩;have l:=q.fr (P:=λ_=>False) (Fr.eS s _ _) (λ_ e=>e.elim);refine⟨Vy l,(KD l.co j f (by have:=r.td.ln _ (eA f);omega)).mono ?_⟩;rintro e d ⟨v,g,rfl,o,t,_,A⟩;obtain⟨a,k,rfl,_⟩:=o.len;exact⟨a,k,g,rfl,o,t,A⟩
def YU{B:Nat}{v:ah}{d:List bZ}(h:eM B w v d)(I:k<d.length):∃b o s m p A,v=av (some ⟨b,o,none⟩) d.length s/\b<w.heap.size/\(∀j u,(R0 (d[k]).id (d[k]).text (d[k]).k (d[k]).n (av m (d[k]).items.length p) (d[k]).done (d[k]).cancelled)[j]? =some u->w.cell? ⟨b,o+k*7+j,none⟩=some u)/\Seg w 83 2 A (av m (d[k]).items.length p) (dT (d[k]).items) (d[k]).items.length/\∀b,A=some b->B<=b:=by
 obtain⟨l,g,C,J,_,M⟩:=h;have N:l.length=d.length:=by rw[<-C,cr]
 have i:k<l.length:=by omega
 have E:(l[k]).t=d[k]:=by
  have e:(l.map lN.t)[k]? =d[k]? :=by rw[C]
  simpa[I,i]using e
 have⟨b,x,O,U,F,P,Q⟩:=J.cell (by decide) k i;rw[N]at F;have⟨q,T⟩:=M (l[k]) (eA i);rw[E]at q;have⟨m,p,G,_⟩:=q.len;rw[G]at q;refine⟨b,x,O,m,p,(l[k]).ig,F,P,λj u r=> ?_,q,T⟩;have H:j<7:=by
  obtain h|h:=Nat.lt_or_ge j 7
  .exact h
  .rw[oz (by simpa[R0]using h)]at r;cases r
 refine(Q j u H ?_).1;rw[eT (f:=lN.cells) (λ_=>rfl) _ _ _ i H];rw[<-G,<-E]at r;exact r
def Bu{b d:ae}{o:Obj}(h:ai ((b.alloc o).drew).heap.size ((b.alloc o).drew) d):d.heap[b.heap.size]? =some o/\ai b b d/\b.heap.size<((b.alloc o).drew).heap.size:=by
 have e:=az (a_ b o);have f:ai b b ((b.alloc o).drew):=((aO _ _).alloc (aP _) _).drew;exact⟨(h.block _ e).trans (a_ b o),f.trans (h.mono f.size),e⟩
def sF.of2{e d:ae}{t:bZ}{v:ah}(h:ai (e.drew).heap.size e.drew d)(j:Seg d 83 2 g v (dT t.items) t.items.length)(l:∀b,g=some b->(e.drew).heap.size<=b):sF e t d v (d.alloc (aB (jT t v).toArray 68 (0,0))):=by
 have f:ai e e d:=(aO _ _).drew.trans h;have i:ai d d (d.alloc (aB (jT t v).toArray 68 (0,0))):=(aO _ _).alloc (aP _) _;exact⟨a_ _ _,f.size,⟨g,j.bH (ch i) (by simp),l⟩,f.trans (i.mono f.size)⟩
def ZG{d:ae}{b:Nat}(h:d.heap[b]? =some (aB #[an ar 0,aA ⟨#[]⟩,an ar 0,an ar 0,(),aw false,aw false] 68 (0,0))):d.cell? b=(0:Int)/\d.cell? ⟨b,1,none⟩=some (aA ⟨#[]⟩)/\d.cell? ⟨b,2,none⟩=(0:Int)/\d.cell? ⟨b,3,none⟩=(0:Int)/\d.cell? ⟨b,4,none⟩=()/\d.cell? ⟨b,5,none⟩=some (aw false)/\d.cell? ⟨b,6,none⟩=some (aw false)/\(∀i,d.frozen? ⟨b,i,none⟩=false)/\b<d:=
 ⟨aF h _ rfl,aF h _ rfl,aF h _ rfl,aF h _ rfl,aF h _ rfl,aF h _ rfl,aF h _ rfl,λi=>bB h _,az h⟩
def VW{e f:ae}(i j l:Int)(m:ByteArray)(o p:Bool){d:List aY}(q:k=d.length)(h:ai ((e.alloc (aB #[an ar 0,aA ⟨#[]⟩,an ar 0,an ar 0,(),aw false,aw false] 68 (0,0))).drew).heap.size ((e.alloc (aB #[an ar 0,aA ⟨#[]⟩,an ar 0,an ar 0,(),aw false,aw false] 68 (0,0))).drew) f)(r:Seg f 83 2 g (av a k n) (dT d) k)(s:∀b,g=some b->((e.alloc (aB #[an ar 0,aA ⟨#[]⟩,an ar 0,an ar 0,(),aw false,aw false] 68 (0,0))).drew).heap.size<=b):sF e ⟨i,m,j,l,d,o,p⟩ e (av a k n) (World.setCell (World.setCell (World.setCell (World.setCell (World.setCell (World.setCell (World.setCell f ⟨e,0,none⟩ i) ⟨e,1,none⟩ (aA m)) ⟨e,2,none⟩ j) ⟨e,3,none⟩ l) ⟨e,4,none⟩ (av a k n)) ⟨e,5,none⟩ (aw o)) ⟨e,6,none⟩ (aw p)):=by
 have⟨x,A,B⟩:=Bu h;subst q;exact sF.of (t:=⟨i,m,j,l,d,o,p⟩) (v:=av a d.length n) (g:=g) x A r λb C=>bP B (s b C)
def PU{e f:ae}(i j l:Int)(m:ByteArray)(o p:Bool){d:List aY}(q:k=d.length)(h:ai (e.drew).heap.size e.drew f)(r:Seg f 83 2 g (av a k n) (dT d) k)(s:∀b,g=some b->(e.drew).heap.size<=b):sF e ⟨i,m,j,l,d,o,p⟩ f (av a k n) (f.alloc (aB #[i,aA m,j,l,av a k n,aw o,aw p] 68 (0,0))):=by
 subst q;exact sF.of2 (t:=⟨i,m,j,l,d,o,p⟩) (v:=av a d.length n) (g:=g) h r s
def N5(t:bZ):bZ:=⟨t.id,t.text,t.k,t.n,t.items,t.done,t.cancelled|| !t.done⟩
def aaq(t:bZ):(if t.live then CR t else t)=N5 t/\(N5 t).live=false:=by
 obtain⟨a,b,k,n,l,d,e⟩:=t;cases d<;>cases e<;>exact⟨rfl,rfl⟩
def CV(i:fX c=true)(es:List cO){k:Nat}(a:k<(bW c es).co.told.length):
 ((bW c es).co.told[k]).id=(k:Int)+1/\
 (fh (bW c (es++ [jX 2 0 ((k:Int)+1)])).co.told:Int)=(fh (bW c es).co.told:Int)-(if((bW c es).co.told[k]).done||((bW c es).co.told[k]).cancelled then 0 else 1)/\
 ∀l,∃h:k<(bW c (es++ [jX 2 0 ((k:Int)+1)]++l)).co.told.length,(bW c (es++ [jX 2 0 ((k:Int)+1)]++l)).co.told[k]=N5 ((bW c es).co.told[k]):=by
 have h:=tu i es;have n:=tu i (es++ [jX 2 0 ((k:Int)+1)]);have o:bW c (es++ [jX 2 0 ((k:Int)+1)])=(bC c (bW c es) (jX 2 0 ((k:Int)+1))).1:=by
  unfold bW;rw[pY]
 have b:=K8 h (e:=jX 2 0 ((k:Int)+1)) rfl a rfl;rw[<-o]at b;have hid:=h.td.ids k a;have g:(bW c es).co.told.getD k ()=(bW c es).co.told[k]:=by simp[aU,a]
 rw[g]at hid b;have j:(bW c (es++ [jX 2 0 ((k:Int)+1)])).co.told.getD k ()=N5 ((bW c es).co.told[k]):=by
  rw[b,<-(aaq _).1];split
  .rw[kW _ _ _ _ a,aI rfl]
  .exact g
 have f:(bW c (es++ [jX 2 0 ((k:Int)+1)])).co.told.length=(bW c es).co.told.length:=by
  rw[b];split
  .exact ds
  .rfl
 refine⟨hid,?_,λl=> ?_⟩
 .have:=po (bW c es).co.told k (CR ((bW c es).co.told[k])) a
  rw[g]at this;rw[b];generalize(bW c es).co.told[k]=t at this⊢;have f:t.live= !(t.done||t.cancelled):=rfl;have p:(CR t).live=false:=by simp[CR,bZ.live]
  rw[p,f]at this;rw[f];cases h:(t.done||t.cancelled)
  .rw[h]at this;simp at this⊢;omega
  .simp
 .have m:=Bt l n (k:=k) (by rw[f];exact a) (by rw[j];exact(aaq _).2)
  have q:bW c (es++ [jX 2 0 ((k:Int)+1)]++l)=(cT c (bW c (es++ [jX 2 0 ((k:Int)+1)])) l).1:=by
   unfold bW;rw[nm]
  rw[q];have d:k<(cT c (bW c (es++ [jX 2 0 ((k:Int)+1)])) l).1.co.told.length:=by have:=m.2;omega
  refine⟨d,?_⟩;have:=m.1.trans j;simpa[aU,d]using this
def N6(c:aV)(v:ah)(es:List cO)(iq:Int)(v2:ah)(d:List cO)(w:ae)(hc:c.rd w)(hes:aT cO.cells 7 w v es)(he:∀e∈es,te e)(VX:aT cO.cells 7 w v2 d)(he2:∀e∈d,te e):aj prog 10 #[c.val,v,(iq:Int),v2] w λe w'=>e=ax (aw true)/\ai w w w':=by
 have⟨u,hu⟩:=aD (w.alloc (aB c.cells.toArray 25 (0,0)));have⟨hbx,hg,hl2⟩:=aV.box hu;have hgb:=hl2.aJ;have hb0:u.heap[w.heap.size]? =some (aB c.cells.toArray 25 (0,0)):=by rw[hu];exact a_ _ _
 have⟨q,hq⟩:=aD w.heap.size;rw[<-hq]at hb0 hbx;have⟨Er,qH,CN,oM⟩:=c_ (hes.below hgb) (hc.below hgb) he (qe (hc.below hgb) (hes.below hgb) 200 (by decide));have⟨Q,hQ⟩:= @aD (ak->ae->Prop) (λe w'=>e=ax (aw true)/\ai w w w');have K9:=au (show∀y,ai u u y->Q (ax (aw true)) y fromλy hy=>by rw[hQ];exact⟨rfl,hgb.trans (hy.mono hgb.size)⟩);have uG:=au (show∀y,ai u u y->aj prog 14 #[] y λe z=>e=ax (aw true)/\Q (ax (aw true)) z fromλy hy=>(nS y).mono λe z ⟨h1,h2⟩=>⟨h1,K9.o z (hy.trans (h2.mono hy.size))⟩);rw[<-hQ];have⟨C,hC⟩:=aD c;rw[<-hC]at oM qH;obtain⟨wv,cv,words,cuts,j,F,slots,batch,aS,dY,first,cap,G,net⟩:=c;have th:=au (show∀y,ai u u y->q<y/\y.cell? q=(wv)/\y.cell? ⟨q,1,none⟩=(cv)/\y.cell? ⟨q,2,none⟩=j/\y.cell? ⟨q,3,none⟩=F/\y.cell? ⟨q,4,none⟩=slots/\y.cell? ⟨q,5,none⟩=batch/\y.cell? ⟨q,6,none⟩=aS/\y.cell? ⟨q,7,none⟩=dY/\y.cell? ⟨q,8,none⟩=first/\y.cell? ⟨q,9,none⟩=cap/\y.cell? ⟨q,10,none⟩=G/\y.cell? ⟨q,11,none⟩=net fromλy hy=>by
  have I:=(hy.block q (az hb0)).trans hb0;exact⟨az I,aF I _ rfl,aF I _ rfl,aF I _ rfl,aF I _ rfl,aF I _ rfl,aF I _ rfl,aF I _ rfl,aF I _ rfl,aF I _ rfl,aF I _ rfl,aF I _ rfl,aF I _ rfl⟩)
 have vR:=au (show C.val=aG #[wv,cv,j,F,slots,batch,aS,dY,first,cap,G,net]by rw[hC];rfl);have hval:aV.val ⟨wv,cv,words,cuts,j,F,slots,batch,aS,dY,first,cap,G,net⟩=aG #[wv,cv,j,F,slots,batch,aS,dY,first,cap,G,net]:=rfl;have⟨HU,HQ⟩:=aK (show u=w.alloc (aB #[wv,cv,j,F,slots,batch,aS,dY,first,cap,G,net] 25 (0,0))from hu) hq;rw[hval];rw[vR.o]at oM;have⟨ql,h0,h1,h2,h3,h4,h5,h6,h7,h8,h9,h10,h11⟩:=th.o u (aO _ _);obtain⟨va,vc,rfl,hn1,hn2,hrd⟩:=hes;unfold maxLen at hn1;have HRE:=au hrd;have⟨N,hN⟩:=aD es.length;have HN:=au hN;rw[<-hN]at hn1 hn2 oM⊢;have⟨HB0,ZH,VY,N7⟩:=c_ hb0 hgb (VX.below hgb) he2;obtain⟨Ky,vc2,rfl,hm1,hm2,_⟩:=VX;unfold maxLen at hm1;have⟨M,hM⟩:=aD d.length;have U4:=au hM;rw[<-hM]at hm1 hm2⊢;clear hQ hu hbx hl2 hgb hq hval hC hb0 hrd hN hc he hM he2;go_in;go_upto_region 1 with fail
 rw[<-HU.o,<-HQ.o];go_wp2_with fail
 refine oM.m ?_;rintro e y0 ⟨b,rfl,O,hbf⟩;have ZI:=au O;obtain rfl|rfl:=Bool.eq_false_or_eq_true b
 .have HA:=au (uG.o y0 O)
  clear hbf O;go_wp2_with fail
  refine HA.m ?_;rintro e y1 ⟨rfl,J⟩;have HE:=au J;clear J;go_wp2;exact HE.o
 .have⟨U,hle,htx⟩:=hbf rfl
  have SD:=au (show aj prog 32 #[av Ky M vc2,an ar 100] y0 λe w'=>∃b,e=ax (aw b)/\y0=w'/\(b=false->(M:Int)<=100/\∀x∈d,x.text.size<=100)by
   have:=p_ (VY.o.below O) 100 (by decide);rw[<-U4.o]at this;exact this)
  go_wp2_with fail
  refine SD.m ?_;rintro e y0' ⟨b,rfl,rfl,N8⟩;obtain rfl|rfl:=Bool.eq_false_or_eq_true b
  .have HA:=au (uG.o y0 O)
   clear hbf N8 O U hle htx;go_wp2_with fail
   refine HA.m ?_;rintro e y1 ⟨rfl,J⟩;have HE:=au J;clear J;go_wp2;exact HE.o
  have⟨hle2,VZ⟩:=N8 rfl;have hev:=rF htx CN.o;have K_:=rF VZ N7.o;have O0:N<=200:=by omega
  have hM3:M<=100:=by omega
  have⟨CA,J_,HRV,E8⟩:=c_ (show∀y,ai y0 y0 y->aj prog 14 #[] y λe z=>e=ax (aw true)/\Q (ax (aw true)) z fromλy hy=>uG.o y (O.trans (hy.mono O.size))) (aaf (Er.o.below O)) (aaf (VY.o.below O)) (tz (c:=C) (U.below O));rw[vR.o]at E8;have⟨qL,abW⟩:=aK hev K_;have⟨SI,uO⟩:= @aD (Nat->List cO->ae->Prop) (λn L y=>Cz C n (λb=>b<y0.heap.size) y0 L y);have HB0:=au (show∀n L y,SI n L y->ai y0 y0 y fromλn L y hs=>by rw[uO]at hs;exact hs.below (λ_ h=>h) (aP _));have HST:=au (show∀n L y (e:cO),SI n L y->L.length<=4000->tj e->∀ev,e.vl=ev->aj prog 24 #[aL (some ⟨n,0,none⟩),ev] y λen z=>∃v,en=ax v/\SI n (L++ [e]) z by
   subst uO;exactλn L y e hs hl he ev hv=>hv▸hs.stp hl he)
  have uq:=au (show∀n L y,SI n L y->L.length<=4000->∃cb,aj prog 29 #[aL (some ⟨n,0,none⟩)] y (λe z=>e=ax (aL (some ⟨cb,0,none⟩))/\y=z)/\
   aj prog 30 #[aL (some ⟨cb,0,none⟩)] y (λe z=>∃v,e=ax v/\eM y z v (bW C L).co.told/\ai y y z/\Cz C n (λb=>b<y0.heap.size∨y.heap.size<=b/\b<z.heap.size) z L z)fromλn L y hs hl=>by
   rw[uO]at hs;have⟨cb,k1,k2,_⟩:=hs.ls.co (by omega);refine⟨cb,k1,k2.mono ?_⟩;rintro e z ⟨v,rfl,k3,k4⟩;exact⟨v,rfl,k3,k4,hs.more k4⟩)
  have Ml:=au (show∀n y,rC C n (λb=>b<y0.heap.size) (gA C) [] 0 y->ai y0 y0 y->SI n [] y fromλn y hl hy=>by
   rw[uO];exact⟨hl,Kp.of_below hy _,λ_ h=>h⟩)
  have⟨ql,h0,h1,h2,h3,h4,h5,h6,h7,h8,h9,h10,h11⟩:=th.o y0 O;clear U hle htx hev hbf N8 hle2 VZ K_ O uO;go_wp2_with fail
  refine E8.m ?_;rintro e y1 ⟨J,⟨hm,rfl⟩|⟨hm,n,rfl,hl⟩⟩
  .have HE:=au (CA.o y1 J)
   clear h0 h1 h2 h3 h4 h5 h6 h7 h8 h9 h10 h11 ql J hm;go_wp2_with fail
   refine HE.m ?_;rintro e y2 ⟨rfl,hy2⟩;have HE2:=au hy2;clear hy2;go_wp2;exact HE2.o
  .have⟨Pu,HMC,HVE⟩:=aX (Ml.o n y1 hl J) hm (show∀(kind node at':Int) (w:ae),aj prog 16 #[kind,node,at'] w λen w'=>en=ax (aG #[an ar kind,an ar node,an ar at',an ar 0,aA ⟨#[]⟩,an ar 0,an ar 0])/\ai w w w' from evC)
   have⟨L1,hL1⟩:=aD es;have HL1:=au hL1;clear hl J hm hL1 h0 h1 h2 h3 h4 h5 h6 h7 h8 h9 h10 h11 ql;go_wp2;go_loopw [10] (λi wr=>∃(k:Nat),k<=N/\i=an ar k/\SI n (es.take k) wr) (λi _=>N-(intOf i).toNat)
   case atStart=>exact⟨0,bz _,rfl,Pu.o⟩
   case round=>
    obtain⟨k,hk,rfl,s⟩:=hrel;by_cases hlt:k<N
    .have hkl:k<es.length:=by rw[<-HN.o];exact hlt
     obtain⟨b,o,rfl,I,hcl⟩:=J_.o k hkl;have hgd:es.getD k ()=es[k]:=by simp[aU,hkl]
     rw[hgd]at hcl;have U:=qL.o _ (eA hkl);have V:=HST.o n _ wr (es[k]) s (by rw[dw];omega) U _ rfl;rw[<-fG hkl]at V;have⟨E,hE⟩:=aD (es[k]);rw[<-hE]at hcl V U;obtain⟨kd,nd,at',ex,tx,ek,en⟩:=E;have⟨bl,p0,p1,p2,p3,p4,p5,p6⟩:=aay (HB0.o _ _ _ s) I hcl;have HX:=au (show aj prog 24 #[aL (some ⟨n,0,none⟩),aG #[kd,nd,at',ex,aA tx,ek,en]] wr λen z=>∃v,en=ax v/\SI n (es.take (k+1)) z from V);have htx:tx.size<=maxLen:=bD U.2 (by decide);have q1:(0:Int)<=(k:Int):=by omega
     have q2:(k:Int)<(N:Int):=by omega
     clear hcl hgd hE I s hkl V U;go_wp2_with fail
     refine HX.m ?_;rintro e z ⟨v,rfl,hz⟩;have HZ:=au hz;clear hz;go_wp2;go_roundw
     case rel=>exact⟨k+1,by omega,by go_num,HZ.o⟩
     case measure=>simp[intOf];omega
    .obtain rfl:k=N:=by omega
     rw[HN.o,fR,<-HL1.o]at s;have hL1:L1.length<=200:=by rw[HL1.o,<-HN.o];exact O0
     have⟨cb,hc1,hc2⟩:=uq.o n L1 wr s (by omega);have⟨se,qS,Ws⟩:=aX hc1 hc2 (HB0.o _ _ _ s);clear s hlt hk hc1 hc2;go_wp2_with fail
     refine aH se.o ?_;go_wp2_with fail
     refine qS.m ?_;rintro e z0 ⟨v0,rfl,ht0,hz0,hk0⟩;obtain⟨ta,tc,rfl,t1,t2⟩:=ht0.len;unfold maxLen at t2;have htb:=hk0.ls.ok.told;have hbz:=Ws.o.trans (hz0.mono Ws.o.size);have⟨T,hT⟩:=aD ((bW C L1).co.told.length);rw[<-hT]at t1 t2 htb⊢;have hT5:T<=5000:=by omega
     by_cases hT0:T=0
     .have HE:=au (CA.o z0 hbz)
      have b0:((T:Int)==0)=true:=by simp[hT0]
      clear ht0 hz0 hk0 hbz hT htb;go_wp2_with fail
      refine HE.m ?_;rintro e y2 ⟨rfl,hy2⟩;have HE2:=au hy2;clear hy2;go_wp2;exact HE2.o
     .have b0:((T:Int)==0)=false:=by simp[hT0]
      have⟨lw1,lw2⟩:=sH iq (T:Int) (by omega);obtain⟨K,hK⟩:∃K:Nat,low iq (T:Int)=(K:Int):=⟨(low iq T).toNat,by omega⟩
      have hKT:K<T:=by omega
      have hKl:K<(bW C L1).co.told.length:=by rw[<-hT];exact hKT
      have HLW:=au (show aj prog 15 #[(iq:Int),an ar (T:Int)] z0 λe w'=>e=ax (K:Int)/\z0=w' by
       have:=ZP iq (T:Int) z0 (by omega) (by omega);rw[hK]at this;exact this)
      have HUN:=au (show∀y,ai z0 z0 y->aj prog 28 #[av ta T tc] y λe w'=>e=ax (fh (bW C L1).co.told:Int)/\y=w' fromλy hy=>by
       have:=Gj (ht0.below hy);rw[hT];exact this)
      have⟨tb,to',arx,is1,is2,ig,te1,te2,Wz,te4,te5⟩:=YU ht0 hKl;simp only[bG]at te1;obtain⟨rfl,-,rfl⟩:=te1;have⟨hid,hlv,hcut⟩:=CV HMC.o L1 hKl;have⟨t,ht⟩:=aD ((bW C L1).co.told[K]);rw[<-ht]at Wz te4 hid hlv hcut;obtain⟨X,ts,tk,tn,A,f,Y⟩:=t;simp only[N5]at Wz te4 hid hlv hcut;obtain⟨c0,c1,c2,c3,c4,c5,c6⟩:z0.cell? ⟨tb,to'+K*7,none⟩=X/\z0.cell? ⟨tb,to'+K*7+1,none⟩=some (aA ts)/\z0.cell? ⟨tb,to'+K*7+2,none⟩=tk/\z0.cell? ⟨tb,to'+K*7+3,none⟩=tn/\z0.cell? ⟨tb,to'+K*7+4,none⟩=some (av is1 A.length is2)/\z0.cell? ⟨tb,to'+K*7+5,none⟩=some (aw f)/\z0.cell? ⟨tb,to'+K*7+6,none⟩=some (aw Y):=⟨by simpa using Wz 0 _ rfl,Wz 1 _ rfl,Wz 2 _ rfl,Wz 3 _ rfl,Wz 4 _ rfl,Wz 5 _ rfl,Wz 6 _ rfl⟩;have⟨Z,U3⟩:=aD A.length;rw[<-U3]at c4 te4;have Eu:=au U3;have⟨wx,hwc⟩:=aD (z0.alloc (aB #[X,aA ts,tk,tn,av is1 Z is2,aw f,aw Y] 68 (0,0)));have hbw:ai z0 z0 wx:=by rw[hwc];exact(aO _ _).alloc (aP _) _
      have⟨g,hg⟩:=aD z0.heap.size;have hbx:wx.heap[g]? =some (aB #[X,aA ts,tk,tn,av is1 Z is2,aw f,aw Y] 68 (0,0)):=by rw[hwc,hg];exact a_ _ _
      have q1:(0:Int)<=(K:Int):=by omega
      have q2:(K:Int)<(T:Int):=by omega
      have⟨ZJ,HLV,ags,HT0,HKI,HG⟩:=eC hid hlv hcut ht0 (hk0.more hbw) hg;have⟨HWC,ue,HBC,HIT,HIG⟩:=iI hwc hbx hbw (te4.bH (ch hbw) (by simp)) (show∀b,ig=some b->wr.heap.size<=b/\b<z0.heap.size fromλb I=>⟨te5 b I,te4.lt b (by simpa using I)⟩);have hli:(fh (bW C L1).co.told:Int)<=5000:=by
       have:fh (bW C L1).co.told<=(bW C L1).co.told.length:=List.countP_le_length;omega
      have agt:=hbz.trans (hbw.mono hbz.size);have Wu:=au agt;have⟨LN,hLN⟩:= @aD Int (fh (bW C L1).co.told:Int);have arB:0<=LN:=by omega
      rw[<-hLN]at hli HUN HLV;clear hk0 ht0 hz0 hbz agt hT htb hK hid hlv hcut Wz te4 te5 U3 hwc hbw hbx hg hKl ht lw1 lw2 hLN;go_wp2_with fail
      refine aH HLW.o ?_;go_upto_region 14 with fail
      rw[<-HWC.o,<-HG.o];clear c0 c1 c2 c3 c4 c5 c6 te2;have HUW:=au (HUN.o wx HBC.o);go_wp2_with fail
      refine aH HUW.o ?_;have gl:=az ue.o;have d0:=aF ue.o 0 rfl;go_wp2_with fail
      refine(HVE.o _ _ _ _).mono ?_;rintro e z1 ⟨rfl,hz1⟩;have hk1:=(HKI.o.more hz1);have V:=hk1.VP (aO _ _) (by omega) (jX 2 0 X) ⟨show ld X from eN (by have:=ZJ.o;omega) (by have:=ZJ.o;omega),bz _⟩;rw[ZJ.o]at V;have HST:=au (show aj prog 24 #[aL (some ⟨n,0,none⟩),aG #[an ar 2,an ar 0,an ar X,an ar 0,aA ⟨#[]⟩,an ar 0,an ar 0]] z1 λen z=>∃v,en=ax v/\Cz C n _ z1 (L1++ [jX 2 0 ((K:Int)+1)]) z by
       rw[ZJ.o];refine V.mono ?_;rintro en z ⟨sa,sn,sk,la,ln,lk,rfl,g1,_⟩;exact⟨_,rfl,g1⟩)
      have HZ1:=au hz1;clear hk1 V hz1 d0 gl;go_wp2_with fail
      refine HST.m ?_;rintro e z2 ⟨v,rfl,hk2⟩;have hb1:=(HZ1.o.block g (az ue.o)).trans ue.o;have hgz:z0.heap.size<=g:=Nat.le_of_eq HG.o.symm;have W:=(hk2.kp.block g (.inl (.inr ⟨hgz,az ue.o⟩)) (az hb1)).trans hb1;have sg2:=((HIT.o.bH (ch HZ1.o) (by simp)).kp hk2.kp λb I=>.inl (.inl (.inr (HIG.o b I))));have hbk:=(Wu.o.trans (HZ1.o.mono Wu.o.size)).trans (hk2.below (B:=y0.heap.size) (λb I=>.inl (.inl (.inl I))) (bD Wu.o.size HZ1.o.size));have⟨L2,hL2⟩:=aD (L1++ [jX 2 0 ((K:Int)+1)]);have hl2:L2.length<=201:=by rw[hL2,bF];simp only[cG,dx];omega
      have⟨Lb,hcg⟩:=ags.o [];simp only[List.append_nil,<-hL2]at Lb hcg;rw[<-hL2]at hk2;have⟨cb,hco⟩:=hk2.ls.tells (by omega) Lb;rw[hcg]at hco;have Jt:=au (show∀z,ai z2 z2 z->aj prog 29 #[aL (some ⟨n,0,none⟩)] z (λe z'=>e=ax (aL (some ⟨cb,0,none⟩))/\z=z')fromλz hz=>(hco z hz).1);have HTD:=au (show∀z,ai z2 z2 z->aj prog 34 #[aL (some ⟨cb,0,none⟩),X] z (λe z'=>∃a k g,e=ax (aM #[aG #[X,aA ts,tk,tn,av a Z k,aw f,aw (Y|| !f)],aw true])/\Seg z' 83 2 g (av a Z k) (dT A) Z/\(∀b,g=some b->z.heap.size<=b)/\ai z z z')fromλz hz=>by
       rw[ZJ.o];refine(hco z hz).2.mono ?_;rintro e z' ⟨a,k,g,rfl,k1,k2,k3⟩;rw[Eu.o,<-ZJ.o];exact⟨a,k,g,rfl,k1,k2,k3⟩)
      have uq:=au (show∀z,ai z2 z2 z->∃cb,aj prog 29 #[aL (some ⟨n,0,none⟩)] z (λe z'=>e=ax (aL (some ⟨cb,0,none⟩))/\z=z')/\aj prog 30 #[aL (some ⟨cb,0,none⟩)] z (λe z'=>∃v,e=ax v/\ai z z z'/\aj prog 28 #[v] z' λe z3=>e=ax (LN-if(f||Y)=true then 0 else 1:Int)/\z'=z3)fromλz hz=>by
       have⟨cb,k1,k2,_⟩:=(hk2.E5 hz).ls.co (by omega);refine⟨cb,k1,k2.mono ?_⟩;rintro e z' ⟨v,rfl,k3,k4⟩;refine⟨v,rfl,k4,?_⟩;have:=Gj k3;have e:=HLV.o;rw[<-hL2]at e;rw[e]at this;exact this)
      have⟨HK2,HGZ,HL2,HB2,Zf,HBK⟩:=eC hk2 (show z0.heap.size<=g/\g<wx.heap.size from⟨hgz,az ue.o⟩) hL2 W sg2 hbk;have gl:=az W;obtain⟨e0,e1,e2,e3,e4,e5,e6⟩:z2.cell? ⟨g,0,none⟩=X/\z2.cell? ⟨g,1,none⟩=some (aA ts)/\z2.cell? ⟨g,2,none⟩=tk/\z2.cell? ⟨g,3,none⟩=tn/\z2.cell? ⟨g,4,none⟩=some (av is1 Z is2)/\z2.cell? ⟨g,5,none⟩=some (aw f)/\z2.cell? ⟨g,6,none⟩=some (aw Y):=⟨aF W _ rfl,aF W _ rfl,aF W _ rfl,aF W _ rfl,aF W _ rfl,aF W _ rfl,aF W _ rfl⟩;clear hb1 hgz W sg2 hbk hL2 hk2 Lb hcg hco;go_upto_region 16 with fail
      go_cut [14] (λo wd=>o=aw (!f&& !Y)/\z2=wd)
      case first=>
       cases f<;>cases Y
       all_goals
        go_wp2;go_meet;exact⟨rfl,rfl⟩
      case rest=>
       obtain⟨rfl,rfl⟩:=hcut;have⟨t2,ht2⟩:= @aD bZ (⟨X,ts,tk,tn,A,f,Y|| !f⟩);have HT2:=au ht2;clear ht2;go_upto_region 17 with fail
       go_cut [15,16] (λp o wd=>∃(g2:Nat) (a:Option Addr) (k:Nat),p=aL (some g2)/\o=aw true/\sF z2 t2 g2 (av a Z k) wd)
       case first=>
        go_region_law (first
         |(refine dm (by rfl) 29 func29 (by kernel_rfl) (by kernel_rfl) (by rfl) _ (by kernel_rfl) (Jt.o _ (by first|exact(aO _ _).drew|exact((aO _ _).alloc (aP _) _).drew)) ?_;rintro e z3 ⟨rfl,rfl⟩;refine⟨_,rfl,?_⟩)
         |(refine dm (by rfl) 34 func34 (by kernel_rfl) (by kernel_rfl) (by rfl) _ (by kernel_rfl) (HTD.o _ (aO _ _).drew) ?_;rintro e z3 ⟨a,k,gq,rfl,k1,k2,k3⟩;refine⟨_,rfl,?_⟩;have H1:=au k1;have H2:=au k2;have H3:=au k3;clear k1 k2 k3)
         |(refine dm (by rfl) 34 func34 (by kernel_rfl) (by kernel_rfl) (by rfl) _ (by kernel_rfl) (HTD.o _ ((aO _ _).alloc (aP _) _).drew) ?_;rintro e z3 ⟨a,k,gq,rfl,k1,k2,k3⟩;refine⟨_,rfl,?_⟩;have H1:=au k1;have H2:=au k2;have H3:=au k3;have⟨x0,x1,x2,x3,x4,x5,x6,xf,xl⟩:=ZG (Bu k3).1;clear k1 k2 k3)
         |fail)
        all_goals
         go_wp2;go_meet
         first
          |(have H:=PU X tk tn ts f (Y|| !f) Eu.o H3.o H1.o H2.o;rw[<-HT2.o]at H;with_reducible exact⟨_,_,_,rfl,rfl,H⟩)
          |(have H:=VW X tk tn ts f (Y|| !f) Eu.o H3.o H1.o H2.o;rw[<-HT2.o]at H;with_reducible exact⟨_,_,_,rfl,rfl,H⟩)
       case rest=>
        obtain⟨g2,na,nk,rfl,rfl,l⟩:=hcut
        rename ae=>z4
        have arD:=au l;have hbn:=l.2.2.2;have hb4:=(hbn.block g (az HB2.o)).trans HB2.o;have akS:=au (Zf.o.bH (ch hbn) (by simp));have⟨ig2,sg4,sgb⟩:=l.2.2.1;have hb5:z4.heap[g2]? =some (aB #[X,aA ts,tk,tn,av na Z nk,aw f,aw (Y|| !f)] 68 (0,0)):=by
         have h:=l.1;rw[HT2.o]at h;exact h
        have agu:=au (show Seg z4 83 2 ig2 (av na Z nk) (dT A) Z by
         have h:=sg4;rw[HT2.o]at h;rw[Eu.o]at h⊢;exact h)
        have akT:=au sgb;have akU:=au (show∀y,ai z4 z4 y->aj prog 33 #[av na Z nk,av is1 Z is2] y λe w'=>e=ax (aw true)/\ai y y w' fromλy hy=>by
         exact pZ (aad agu.o Eu.o hy) (aad akS.o Eu.o hy))
        have⟨HBN,agv,agw,HG2⟩:=c_ hbn hb4 hb5 l.2.1;have gl4:=az hb4;have gl5:=az hb5;have f6:=aF hb4 6 rfl;have f4:=aF hb4 4 rfl;have n6:=aF hb5 6 rfl;have n4:=aF hb5 4 rfl;clear l hbn hb4 hb5 sg4 sgb e0 e1 e2 e3 e4 e5 e6 gl;go_upto_region 18 with fail
        go_cut [112] (λr wd=>r=aw false/\ai z4 z4 wd)
        case first=>
         have⟨LV,hLV⟩:= @aD Int (LN-if(f||Y)=true then 0 else 1);have HLV:=au hLV;rw[<-hLV]at uq;clear hLV;cases f<;>cases Y
         all_goals
          first
           |(have e:LV=LN-1:=(by simpa using HLV.o);rw[e]at uq;clear e)
           |(have e:LV=LN:=(by simpa using HLV.o);rw[e]at uq;clear e)
          go_wp2_with fail
          refine(akU.o _ (aO _ _)).mono ?_;rintro e y1 ⟨rfl,J⟩;have hzy:=HBN.o.trans (J.mono HBN.o.size);have⟨cb2,hc1,hc2⟩:=uq.o y1 hzy;have⟨se,qS,HY1⟩:=aX hc1 hc2 J;clear hc1 hc2 hzy J f4 f6 n4 n6 gl4 gl5;go_wp2_with fail
          refine aH se.o ?_;go_wp2_with fail
          refine qS.m ?_;rintro e y2 ⟨v,rfl,hy2,hun⟩;have⟨HUN,HY2⟩:=aK hun hy2;clear hun hy2;go_wp2_with fail
          refine aH HUN.o ?_;go_wp2_with fail
          refine aH (NZ _ _) ?_;go_wp2;go_meet;exact⟨rfl,HY1.o.trans (HY2.o.mono HY1.o.size)⟩
        case rest=>
         obtain⟨rfl,hbd⟩:=hcut
         rename ae=>z5
         have ab1:=HBN.o.trans (hbd.mono HBN.o.size);have hk5:=HK2.o.more ab1;have hbg:=(hbd.block g (az agv.o)).trans agv.o;have YV:=(hbd.block g2 (az agw.o)).trans agw.o;have ab2:=agu.o.bH (ch hbd) (by simp);have ab3:=HBK.o.trans (ab1.mono HBK.o.size);have⟨SK,hSK⟩:= @aD (List cO->ae->Prop) (λL y=>Cz C n (λb=>(((b<y0.heap.size∨wr.heap.size<=b/\b<z0.heap.size)∨z0.heap.size<=b/\b<wx.heap.size)∨wx.heap.size<=b/\b<z1.heap.size)∨z2.heap.size<=b/\b<z5.heap.size) z5 L y);have⟨Yv,HB1⟩:=aK (show SK (L2++d.take 0) z5 by rw[hSK];show Cz _ _ _ _ (L2++ []) _;rw[List.append_nil];exact hk5) (show∀L y,SK L y->ai y0 y0 y fromλL y hs=>by rw[hSK]at hs;exact ab3.trans (hs.below (B:=y0.heap.size) (λ_ h=>.inl (.inl (.inl (.inl h)))) ab3.size));have HST:=au (show∀L y (e:cO),SK L y->L.length<=4000->tj e->∀ev,e.vl=ev->aj prog 24 #[aL (some ⟨n,0,none⟩),ev] y λen z=>∃v,en=ax v/\SK (L++ [e]) z by
          subst hSK;exactλL y e hs hl he ev hv=>hv▸hs.stp hl he)
         have akY:=au (show∀ye,SK (L2++d.take M) ye->ye.heap[g]? =some (aB #[X,aA ts,tk,tn,av is1 Z is2,aw f,aw Y] 68 (0,0))/\ye.heap[g2]? =some (aB #[X,aA ts,tk,tn,av na Z nk,aw f,aw (Y|| !f)] 68 (0,0))/\(∃ig,Seg ye 83 2 ig (av na Z nk) (dT A) Z)/\∃cb,(∀z,ai ye ye z->aj prog 29 #[aL (some ⟨n,0,none⟩)] z (λe z'=>e=ax (aL (some ⟨cb,0,none⟩))/\z=z'))/\∀z,ai ye ye z->aj prog 34 #[aL (some ⟨cb,0,none⟩),X] z (λe z'=>∃a k g,e=ax (aM #[aG #[X,aA ts,tk,tn,av a Z k,aw f,aw (Y|| !f)],aw true])/\Seg z' 83 2 g (av a Z k) (dT A) Z/\(∀b,g=some b->z.heap.size<=b)/\ai z z z')fromλye hs=>by
          rw[hSK]at hs;have⟨hc0,hcg⟩:=ags.o (d.take M);simp only[<-HL2.o]at hc0 hcg;have hll:(L2++d.take M).length<=4000:=by rw[bF,dw];omega
          have⟨cb,hco⟩:=hs.ls.tells (by omega) hc0;rw[hcg]at hco;refine⟨(hs.kp.block g (.inl (.inl (.inr HGZ.o))) (az hbg)).trans hbg,(hs.kp.block g2 (.inr ⟨HG2.o,az YV⟩) (az YV)).trans YV,⟨ig2,ab2.kp hs.kp λb I=>.inr ⟨akT.o b I,ab2.lt b (by simpa using I)⟩⟩,cb,λz hz=>(hco z hz).1,λz hz=> ?_⟩;rw[ZJ.o];refine(hco z hz).2.mono ?_;rintro e z' ⟨a,k,g,rfl,k1,k2,k3⟩;rw[Eu.o,<-ZJ.o];exact⟨a,k,g,rfl,k1,k2,k3⟩)
         clear hbd ab1 hk5 hbg YV ab2 ab3 hSK gl4 gl5 f4 f6 n4 n6;go_wp2;go_loopw [17] (λi wr=>∃(k:Nat),k<=M/\i=an ar k/\SK (L2++d.take k) wr) (λi _=>M-(intOf i).toNat)
         case atStart=>exact⟨0,bz _,rfl,Yv.o⟩
         case round=>
          rename ae=>wq
          obtain⟨k,hk,rfl,s⟩:=hrel;by_cases hlt:k<M
          .have hkl:k<d.length:=by rw[<-U4.o];exact hlt
           obtain⟨b,o,rfl,I,hcl⟩:=HRV.o k hkl;have hgd:d.getD k ()=d[k]:=by simp[aU,hkl]
           rw[hgd]at hcl;have U:=abW.o _ (eA hkl);have V:=HST.o _ wq (d[k]) s (by rw[bF,dw];omega) U _ rfl;rw[h_,<-fG hkl]at V;have⟨E,hE⟩:=aD (d[k]);rw[<-hE]at hcl V U;obtain⟨kd,nd,at',ex,tx,ek,en⟩:=E;have⟨bl,p0,p1,p2,p3,p4,p5,p6⟩:=aay (HB1.o _ _ s) I hcl;have htx:tx.size<=maxLen:=bD U.2 (by decide);have q3:(0:Int)<=(k:Int):=by omega
           have q4:(k:Int)<(M:Int):=by omega
           have HX:=au (show aj prog 24 #[aL (some ⟨n,0,none⟩),aG #[kd,nd,at',ex,aA tx,ek,en]] wq λen z=>∃v,en=ax v/\SK (L2++d.take (k+1)) z from V);clear hcl hgd hE I s hkl V U;go_wp2_with fail
           refine HX.m ?_;rintro e z ⟨v,rfl,hz⟩;have HZ:=au hz;clear hz;go_wp2;go_roundw
           case rel=>exact⟨k+1,by omega,by go_num,HZ.o⟩
           case measure=>simp[intOf];omega
          .obtain rfl:k=M:=by omega
           have⟨ye,hye⟩:=aD wq;rw[<-hye]at s⊢;have⟨hb1,W,⟨ig5,hsg⟩,cb5,hco,htd⟩:=akY.o ye s;have⟨Jt,HTD,HBE,HB2,Zf⟩:=iI hco htd (HB1.o _ _ s) W hsg;have gl:=az hb1;have e0:=aF hb1 0 rfl;clear hye hb1 W hsg hco htd s hlt hk;go_upto_region 24 with fail
           go_cut [18,19] (λp o wd=>∃(g3:Nat) (a:Option Addr) (k:Nat),p=aL (some g3)/\o=aw true/\sF ye t2 g3 (av a Z k) wd)
           case first=>
            go_region_law (first
             |(refine dm (by rfl) 29 func29 (by kernel_rfl) (by kernel_rfl) (by rfl) _ (by kernel_rfl) (Jt.o _ (by first|exact(aO _ _).drew|exact((aO _ _).alloc (aP _) _).drew)) ?_;rintro e z3 ⟨rfl,rfl⟩;refine⟨_,rfl,?_⟩)
             |(refine dm (by rfl) 34 func34 (by kernel_rfl) (by kernel_rfl) (by rfl) _ (by kernel_rfl) (HTD.o _ (aO _ _).drew) ?_;rintro e z3 ⟨a,k,gq,rfl,k1,k2,k3⟩;refine⟨_,rfl,?_⟩;have H1:=au k1;have H2:=au k2;have H3:=au k3;clear k1 k2 k3)
             |(refine dm (by rfl) 34 func34 (by kernel_rfl) (by kernel_rfl) (by rfl) _ (by kernel_rfl) (HTD.o _ ((aO _ _).alloc (aP _) _).drew) ?_;rintro e z3 ⟨a,k,gq,rfl,k1,k2,k3⟩;refine⟨_,rfl,?_⟩;have H1:=au k1;have H2:=au k2;have H3:=au k3;have⟨x0,x1,x2,x3,x4,x5,x6,xf,xl⟩:=ZG (Bu k3).1;clear k1 k2 k3)
             |fail)
            all_goals
             go_wp2;go_meet
             first
              |(have H:=PU X tk tn ts f (Y|| !f) Eu.o H3.o H1.o H2.o;rw[<-HT2.o]at H;with_reducible exact⟨_,_,_,rfl,rfl,H⟩)
              |(have H:=VW X tk tn ts f (Y|| !f) Eu.o H3.o H1.o H2.o;rw[<-HT2.o]at H;with_reducible exact⟨_,_,_,rfl,rfl,H⟩)
           case rest=>
            obtain⟨g3,ea,ek,rfl,-,l⟩:=hcut
            rename ae=>z6
            have hbn:=l.2.2.2;have hb6:=(hbn.block g2 (az HB2.o)).trans HB2.o;have⟨ig6,sg6,_⟩:=l.2.2.1;have NI:z6.heap[g3]? =some (aB #[X,aA ts,tk,tn,av ea Z ek,aw f,aw (Y|| !f)] 68 (0,0)):=by
             have h:=l.1;rw[HT2.o]at h;exact h
            have akZ:=au (show aj prog 35 #[aG #[X,aA ts,tk,tn,av ea Z ek,aw f,aw (Y|| !f)],aG #[X,aA ts,tk,tn,av na Z nk,aw f,aw (Y|| !f)]] z6 λe w'=>e=ax (aw true)/\ai z6 z6 w' by
             have h1:=sg6;rw[HT2.o,<-Eu.o]at h1;exact E6 X ts tk tn f (Y|| !f) (aad h1 Eu.o (aO _ _)) (aad Zf.o Eu.o hbn))
            have agx:=au (HBE.o.trans (hbn.mono HBE.o.size));have gl3:=az NI;have gl2:=az hb6;obtain⟨e0,e1,e2,e3,e4,e5,e6⟩:z6.cell? g3=X/\z6.cell? ⟨g3,1,none⟩=some (aA ts)/\z6.cell? ⟨g3,2,none⟩=tk/\z6.cell? ⟨g3,3,none⟩=tn/\z6.cell? ⟨g3,4,none⟩=some (av ea Z ek)/\z6.cell? ⟨g3,5,none⟩=some (aw f)/\z6.cell? ⟨g3,6,none⟩=some (aw (Y|| !f)):=⟨aF NI _ rfl,aF NI _ rfl,aF NI _ rfl,aF NI _ rfl,aF NI _ rfl,aF NI _ rfl,aF NI _ rfl⟩;obtain⟨n0,n1,n2,n3,n4,n5,n6⟩:z6.cell? g2=X/\z6.cell? ⟨g2,1,none⟩=some (aA ts)/\z6.cell? ⟨g2,2,none⟩=tk/\z6.cell? ⟨g2,3,none⟩=tn/\z6.cell? ⟨g2,4,none⟩=some (av na Z nk)/\z6.cell? ⟨g2,5,none⟩=some (aw f)/\z6.cell? ⟨g2,6,none⟩=some (aw (Y|| !f)):=⟨aF hb6 _ rfl,aF hb6 _ rfl,aF hb6 _ rfl,aF hb6 _ rfl,aF hb6 _ rfl,aF hb6 _ rfl,aF hb6 _ rfl⟩;clear l hbn hb6 sg6 NI;go_wp2_with fail
            refine akZ.m ?_;rintro e z7 ⟨rfl,hz7⟩;have HE:=au (CA.o z7 (agx.o.trans (hz7.mono agx.o.size)));clear hz7;go_wp2_with fail
            refine HE.m ?_;rintro e y2 ⟨rfl,hy2⟩;have HE2:=au hy2;clear hy2;go_wp2;exact HE2.o
open Go.ChangeShapes Go.WideShapes Go.ChangeAt
def si(G:Os)(b:G.Started)(H:Type)(enc:TypeId×ah->H):
 ReturnsInHanded {} Tryz.checked G 10 .any (Rows.topCancelledSpec.pre6 enc prog Tryz.f10 Rows.topCancelledRow.domain false) (Rows.topCancelledSpec.post enc prog Tryz.f10 false true false false):=by
 refine returnsInHanded_of_change (C:=Tryz.checked) vT b (by kernel_rfl) func10
  (ChangeSpec.witness6 (enc:=enc) (C:=Tryz.checked) false ⟨#[],#[aG #[(),(),an ar 0,an ar 0,an ar 0,an ar 0,an ar 0,an ar 0,an ar 0,an ar 0,an ar 0,an ar 0],(),an ar 0,()],[]⟩ 8 (by kernel_rfl) (by kernel_rfl) (by kernel_rfl) (by kernel_rfl)) ?_
 intro W base args X gs g c I _ _;have a:∀(j:Nat) t v,Tryz.f10.params[j]? =some t->args[j]? =some v->Value.okWide prog W .any base t v:=c
 have i:=I;obtain⟨p,q,sr,Y,rfl,_,_⟩:=I;have J:DataW.TrodAll enc prog W 0 (λ_=>true) true Tryz.f10.params.toList args.toList X p:=sr;rw[Tryz.params10]at J a;obtain⟨K,Z,d0,ds0,p0,q0,k,rfl,rfl,L,r0⟩:=trodAll_cons J;obtain⟨l,vs1,d1,ds1,p1,q1,rfl,rfl,rfl,M,r1⟩:=trodAll_cons r0;obtain⟨N,vs2,d2,ds2,p2,q2,rfl,rfl,rfl,O,r2⟩:=trodAll_cons r1;obtain⟨n,vs3,d3,ds3,p3,q3,rfl,rfl,rfl,P,r3⟩:=trodAll_cons r2;obtain⟨rfl,rfl,rfl⟩:=trodAll_nil r3;obtain rfl:args= #[K,l,N,n]:=by cases args;simp_all
 obtain⟨rfl,rfl⟩:=trodVars_none Y;have Q:=L;have o:∀x∈p0,x.block<W.heap.size:=by obtain⟨m,f⟩:=Q;exact DataW.trod_lt m _ _ _ f
 obtain⟨c0,rfl,r,wc0,jc0⟩:=gW (a 0 25 K rfl rfl) L;have T:=M;have s:∀x∈p1,x.block<W.heap.size:=by obtain⟨m,f⟩:=T;exact DataW.trod_lt m _ _ _ f
 have⟨u,w,y⟩:=fN (a 1 26 l rfl rfl) M;have U:=O;have z:∀x∈p2,x.block<W.heap.size:=by obtain⟨m,f⟩:=U;exact DataW.trod_lt m _ _ _ f
 obtain⟨a2,rfl,dd2,_,b2⟩:=open_int underlying3 (a 2 3 N rfl rfl) O;have V:=P;have A:∀x∈p3,x.block<W.heap.size:=by obtain⟨m,f⟩:=V;exact DataW.trod_lt m _ _ _ f
 have⟨B,E,F⟩:=fN (a 3 26 n rfl rfl) P;clear sr c;refine(N6 c0 l u a2 n B W r w y E F).mono λe W' ⟨he,d⟩=> ?_
 subst he;exact⟨_,rfl,_,_,_,[],_,[],i,trodAll_mk1 (shut_bool underlying4 _),(trodAll_cons_mk (Below.trod gX (by kernel_rfl) (of_decide_eq_true (by kernel_rfl)) Q d o) (trodAll_cons_mk (Below.trod gX (by kernel_rfl) (of_decide_eq_true (by kernel_rfl)) T d s) (trodAll_cons_mk (Below.trod gX (by kernel_rfl) (of_decide_eq_true (by kernel_rfl)) U d z) (trodAll_cons_mk (Below.trod gX (by kernel_rfl) (of_decide_eq_true (by kernel_rfl)) V d A) trodAll_mk0)))),rfl,d.frame _,λh=>by cases h⟩
theorem N9:Rows.TopCancelledSaid:=
 OpenClaim.holds_of_wide 10 Tryz.f10 rfl rfl rfl rfl rfl rfl rfl ⟨rfl,rfl,rfl,rfl,rfl⟩ rfl rfl rfl rfl rfl (by kernel_rfl) func10 tB
  (of_decide_eq_true (by kernel_rfl)) (by unfold Func.isWrapper;rw[aC (of_decide_eq_false (by kernel_rfl))];exact⟨rfl,rfl⟩)
  (λb a H enc _=>si b a H enc)
end Go.Proofs.YtjpnlfpompnpkaaGreat
