import Derived.Test.YtjpnlfpompnpkaaGreatP24
namespace Go.Proofs.YtjpnlfpompnpkaaGreat
open Go.RowKit Go.Proofs.Tryz
open Go.Value renaming int->an,slice->av,bool->aw,string->aA,tuple->aM,pointer->aL,agg->aG
open Go.IntKind renaming i64->ar
open Go.Ending renaming returned->ax
open Go.Obj renaming cells->aB
open Go renaming World->ae,Calls->aj,Ending->ak
open Go.RowKit renaming Below->ai
set_option maxRecDepth 100000
set_option linter.all false
set_option maxHeartbeats 1000000
open Go.ChangeMaps mX
variable{P:Tg->Prop}{τ br:cj}{w w' y z:ae}{c:aV}{K:Nat->Prop}{xb n:Nat}{x:di}{rs:List cS}
def tz{c:aV}(E:c.ok w):aj prog 21 #[c.val] w λe w'=>ai w w w'/\((fX c=false/\e=ax (aL none))∨(fX c=true/\∃xb,e=ax (aL (some ⟨xb,0,none⟩))/\rC c xb (λb=>b<w) (gA c) [] 0 w')):=by
 have⟨u,I⟩:=aD (w.alloc (aB c.cells.toArray 25 (0,0)));have⟨s,hg,F⟩:=aV.box I;have j:=F.aJ;have B:u.heap[w.heap.size]? =some (aB c.cells.toArray 25 (0,0)):=by rw[I];exact a_ _ _
 have k:=E.below j;have⟨Q,M⟩:= @aD (ak->ae->Prop) (λe w'=>ai w w w'/\((fX c=false/\e=ax (aL none))∨(fX c=true/\∃xb,e=ax (aL (some ⟨xb,0,none⟩))/\rC c xb (λb=>b<w) (gA c) [] 0 w')));have h0:=s 0 _ rfl;have h1:=s 1 _ rfl;have h2:=s 2 _ rfl;have h3:=s 3 _ rfl;have h4:=s 4 _ rfl;have h5:=s 5 _ rfl;have h6:=s 6 _ rfl;have h7:=s 7 _ rfl;have h8:=s 8 _ rfl;have h9:=s 9 _ rfl;have Y:=s 10 _ rfl;have Z:=s 11 _ rfl;have⟨q,N⟩:=aD w.heap.size;rw[<-N]at h0 h1 h2 h3 h4 h5 h6 h7 h8 h9 Y Z B;rw[<-M];by_cases v:fX c=true
 .have J:=au (EU c u k v)
  have HM:=au (show∀y,ai u u y->aj prog 46 #[c.val] y λe w'=>e=ax (aw true)/\ai y y w' fromλy A=>by
   have:=D1 c y (k.below A);rw[v]at this;exact this)
  have V:=au (show∀y m br,lx c br y m (gA c) []->Fr (λ_=>False) (λ_=>.keep) br u y->∀z,ai y y z->Q (ax m.xb) z fromλy m br W L z hz=>by
   rw[M];have O:=L.below (λ_ _ e=>e) (aP _);refine⟨(j.trans (O.mono j.size)).trans (hz.mono (bD j.size O.size)),.inr ⟨v,m.xb,rfl,⟨br,m,W.fr (P:=λ_=>False) (Fr.eS hz _ _) (λ_ e=>e.elim),rfl,λb X=>L.old b (bP X j.size)⟩,Gg v,rfl⟩⟩)
  have⟨C,hC⟩:=aD c;obtain⟨G,H,p,t,a,d,g,h,aS,i,first,r,f,net⟩:=c;have l:aV.val ⟨G,H,p,t,a,d,g,h,aS,i,first,r,f,net⟩=aG #[G,H,a,d,g,h,aS,i,first,r,f,net]:=rfl;have HU:=au (show u=w.alloc (aB #[G,H,a,d,g,h,aS,i,first,r,f,net] 25 (0,0))from I);rw[l]at J HM⊢;rw[<-hC]at J V;have⟨HQ,T⟩:=aK N B;clear M I s F j N l hC E k v B;go_in;go_upto_region 1 with fail
  rw[<-HU.o,<-HQ.o];go_wp2_with fail
  refine J.m ?_;rintro e y ⟨br,m,rfl,W,L⟩;have A:=L.below (λ_ _ e=>e) (aP _);have⟨HR,U4⟩:=aK (V.o y m br W L) (HM.o y A);have X:=(A.block q (az T.o)).trans T.o;have⟨d0,d1,d2,d3,d4,d5,d6,d7,d8,d9,d10,d11⟩:=mD X;clear W L A X;go_wp2_with fail
  refine U4.m ?_;rintro e y2 ⟨rfl,U⟩;have HE:=au (HR.o y2 U);clear U;go_wp2;exact HE.o
 .have v:fX c=false:=by simpa using v
  have J:=au (KS c u k v);have V:=au (show∀y,ai u u y->Q (ax (aL none)) y fromλy A=>by
   rw[M];exact⟨j.trans (A.mono j.size),.inl ⟨v,rfl⟩⟩)
  obtain⟨G,H,p,t,a,d,g,h,aS,i,first,r,f,net⟩:=c;have l:aV.val ⟨G,H,p,t,a,d,g,h,aS,i,first,r,f,net⟩=aG #[G,H,a,d,g,h,aS,i,first,r,f,net]:=rfl;have HU:=au (show u=w.alloc (aB #[G,H,a,d,g,h,aS,i,first,r,f,net] 25 (0,0))from I);rw[l]at J⊢;have HQ:=au N;clear M I s F j N l E k v B;go_in;go_upto_region 1 with fail
  rw[<-HU.o,<-HQ.o];go_wp2_with fail
  refine J.m ?_;rintro e y ⟨rfl,A⟩;have HE:=au (V.o y A);clear A;go_wp2;exact HE.o
variable{x:cB}
def eF(a:Int):∀(l:List fF) (x:di) (r:cS),(dh c x r a l).1.co=x.co/\(dh c x r a l).2.verdict=r.verdict/\(dh c x r a l).2.id=r.id
 | [],x,r=>⟨rfl,rfl,rfl⟩
 |y::l,x,r=>by
  have h:dh c x r a (y::l)=dh c (cF c a (x,r) y).1 (cF c a (x,r) y).2 a l:=rfl;have⟨b,d,e⟩:=eF a l (cF c a (x,r) y).1 (cF c a (x,r) y).2;rw[h,b,d,e];unfold cF;split<;>exact⟨rfl,rfl,rfl⟩
def ja(x:di)(i:Int)(f:gL->gL):(x.upd i f).co=x.co:=by
 unfold di.upd;split<;>rfl
variable{u wr:ae}{x:di}
def rC.E5(h:rC c xb (λb=>b<u) x rs n wr)(d:u.heap.size<=wr.heap.size)(e:ai wr wr y):rC c xb (λb=>b<u) x rs n y:=
 (h.below e).less λb a=>.inl ⟨a,bP a d⟩
def EW.E5{xb:Nat}{u:ae}{L:List cO}(h:EW c xb u L y)(a:ai y y z):EW c xb u L z:=⟨h.1.E5 h.2.size a,h.2.trans (a.mono h.2.size)⟩
variable{x:cB}
def nT(x:cB)(id:Int)(f:bZ->bZ){k:Nat}(a:k≠(id-1).toNat):(x.tell id f).told.getD k ()=x.told.getD k ():=by
 show(x.told.set _ _).getD k ()=_
 simp only[aU,List.getElem?_set_ne (Ne.symm a)]
def rG(x:cB)(id:Int)(f:bZ->bZ):(x.tell id f).told.length=x.told.length:=by
 show(x.told.set _ _).length=_
 rw[ds]
def pr(x:cB)(y:ej):(js c x y).1.told=x.told:=rfl
def Bp(x:cB)(y:ej){k:Nat}(a:k≠(y.id-1).toNat):(eG c x y).1.told.getD k ()=x.told.getD k ()/\(eG c x y).1.told.length=x.told.length:=by
 unfold eG;simp only;split
 .rw[pr]
  exact⟨(nT _ y.id _ a).trans (nT _ y.id _ a),(rG _ _ _).trans (rG _ _ _)⟩
 .exact⟨nT _ y.id _ a,rG _ _ _⟩
def R1(x:cB)(y:ej)(s:Nat)(d:Int):(cL c x y s d).1.told=x.told:=by
 unfold cL;simp only;split
 .rfl
 .split
  .rfl
  .split<;>rfl
def Bq(d:Int):∀(l:List Int) (x:cB) (y:ej) (a:List fF),(dL c d l x y a).1.told=x.told
 | [],_,_,_=>rfl
 |s::l,x,y,a=>by
  unfold dL;rw[Bq d l,R1]
def oy(x:cB)(d:Int):∀k:Nat,(dM c x d k).1.told=x.told
 |0=>rfl
 |k+1=>by
  have h:=oy x d k;unfold dM lE;split
  .exact h
  .split
   .exact h
   .simp only
    show(dL c d _ _ _ _).1.told=_
    rw[Bq,h]
def qf{B:Int}(b:cI c B x)(text:ByteArray)(a n:Int){k:Nat}(f:k<x.told.length):(dq c x text a n).1.told.getD k ()=x.told.getD k ()/\x.told.length<=(dq c x text a n).1.told.length:=by
 by_cases d:(jD (ie text a n) x.who x.last).1=3
 .rw[iJ d]
  have g:=b.tl;have⟨h,i⟩:=Bp (c:=c) (qI c x text a n) (lD c (x.last+1) (cK x.who) text a n) (k:=k) (by show k≠(x.last+1-1).toNat;omega);have e:(qI c x text a n).told=x.told++ [⟨x.last+1,text,a,n,[],false,false⟩]:=rfl;rw[h,i,e];refine⟨?_,by simp⟩;simp only[aU,gZ f]
 .rw[iO d]
  exact⟨rfl,aP _⟩
variable{z0:ae}{L:List cO}
def Cz.E5(h:Cz c xb K z0 L y)(d:ai y y z):Cz c xb K z0 L z:=
 ⟨(h.ls.below d).less λb a=>.inl ⟨a,bP (h.kb b a) h.kp.size⟩,h.kp.trans (Kp.of_below d K),h.kb⟩
def NZ(b:Bool)(w:ae):aj prog 25 #[aw b] w λe w'=>e=ax (if b then 1 else 0:Int)/\w=w':=by
 cases b
 all_goals
  go_in;go_wp2;go_ret;exact⟨rfl,rfl⟩
def Gi{es:List cO}{k:Nat}(a:k<es.length)(q:Int):bp (es.take (k+1)) q q=if(es[k]).kind=q then bp (es.take k) q q else bp (es.take k) q q++ [es[k]]:=by
 rw[fG a,sE];by_cases h:(es[k]).kind=q
 .simp[h]
 .simp[h]
def N0(es:List cO)(q:Int)(k:Nat):(bp (es.take k) q q).length<=k:=by
 have:=List.length_filter_le (λe:cO=> !decide (e.kind=q)&& !decide (e.kind=q)) (es.take k);exact bD this (by rw[dw];omega)
end Go.Proofs.YtjpnlfpompnpkaaGreat
