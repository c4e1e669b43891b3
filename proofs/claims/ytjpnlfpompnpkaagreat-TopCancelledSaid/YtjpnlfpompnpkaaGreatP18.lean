import Derived.Test.YtjpnlfpompnpkaaGreatP14
namespace Go.Proofs.YtjpnlfpompnpkaaGreat
open Go.RowKit Go.Proofs.Tryz
open Go.Value renaming int->an,slice->av,bool->aw,string->aA,tuple->aM,pointer->aL,agg->aG
open Go.IntKind renaming i64->ar
open Go.Ending renaming returned->ax
open Go.Obj renaming cells->aB
set_option maxRecDepth 100000
set_option linter.all false
open mX
variable{c:aV}{B:Int}{x x':cB}
def bZ.live(t:bZ):Bool:= !(t.done||t.cancelled)
def fh(l:List bZ):Nat:=l.countP bZ.live
structure jf(x:cB):Prop where
 ids:∀k,k<x.told.length->(x.told.getD k ()).id=(k:Int)+1
 op:∀k,k<x.told.length->((x.told.getD k ()).live=true↔∃y∈x.qs,y.id=(k:Int)+1)
 it:∀y∈x.qs,(x.told.getD (y.id-1).toNat default).items=y.mt/\(y.mt.length:Int)<=y.n
 ln:∀t∈x.told,t.items.length<=10
 cn:fh x.told=cntF x.who
def jf.same(h:jf x)(a:x'.told=x.told)(b:x'.qs=x.qs)(d:x'.who=x.who):jf x':=
 ⟨by rw[a];exact h.ids,by rw[a,b];exact h.op,by rw[a,b];exact h.it,by rw[a];exact h.ln,by rw[a,d];exact h.cn⟩
def kW(l:List bZ)(k j:Nat)(t:bZ)(a:k<l.length):(l.set k t).getD j ()=if j=k then t else l.getD j ():=by
 simp only[aU,iW];by_cases e:k=j
 .subst e;simp[a]
 .simp[e,Ne.symm e]
def U7{l:List bZ}{k:Nat}(a:k<l.length):l.getD k ()∈l:=bh l k a
def po(l:List bZ)(k:Nat)(t:bZ)(a:k<l.length):fh (l.set k t)+(if(l.getD k ()).live then 1 else 0)=fh l+(if t.live then 1 else 0):=by
 unfold fh;have e:l.getD k ()=l[k]:=by simp[aU,a]
 rw[e,List.countP_set a];by_cases h:(l[k]).live=true
 .have:0<l.countP bZ.live:=List.countP_pos_iff.2 ⟨_,eA a,h⟩
  simp only[h,if_true];omega
 .simp only[h]
  simp
variable{y:ej}
def cI.idx(h:cI c B x)(a:y∈x.qs):(y.id-1).toNat<x.told.length/\(((y.id-1).toNat:Nat):Int)+1=y.id/\0<y.id:=by
 have⟨_,_,b,d⟩:=(h.qy y a).slot h.sl;have:=h.tl;omega
def Px(a:List ej)(y:ej)(i:Int):(∃z∈nO a y,z.id=i)↔∃z∈a,z.id=i:=by
 have h:=AZ a y;have:∀l:List ej,(∃z∈l,z.id=i)↔i∈l.map ej.id:=λl=>by simp[SM]
 rw[this,this,h]
def Yo(h:jf x)(d:cI c B x){y0:ej}(l:y0∈x.qs)(m:y0.id=y.id)(L:List aY)(hl:y.mt=y0.mt++L)(o:(y.mt.length:Int)<=y.n)(p:y.n<=10):
 jf ((x.put y).tell y.id λt=>{t with items:=t.items++L}):=by
 have⟨f,q,r⟩:=d.idx l;rw[m]at f q r;have⟨i,_⟩:=h.it y0 l;rw[m]at i;have b:∀t:bZ,({t with items:=t.items++L}:bZ).live=t.live:=λ_=>rfl
 refine⟨λj a=> ?_,λj a=> ?_,λz s=> ?_,λt k=> ?_,?_⟩
 .have a:j<x.told.length:=by simpa[cB.tell,cB.put]using a
  show((x.told.set _ _).getD j ()).id=_
  rw[kW _ _ _ _ f];split
  .rename_i e;subst e;exact h.ids _ a
  .exact h.ids _ a
 .have a:j<x.told.length:=by simpa[cB.tell,cB.put]using a
  show((x.told.set _ _).getD j ()).live=true↔∃z∈nO x.qs y,_
  rw[kW _ _ _ _ f,Px];split
  .rename_i e;subst e;exact h.op _ a
  .exact h.op _ a
 .show((x.told.set _ _).getD _ ()).items=_/\_
  rw[kW _ _ _ _ f];obtain rfl|⟨g,u⟩:=rp s
  .rw[aI rfl]
   refine⟨?_,o⟩
   show(x.told.getD (z.id-1).toNat default).items++L=_
   rw[i,hl]
  .have⟨_,j2,v⟩:=d.idx g
   rw[aC (by omega)];exact h.it z g
 .obtain k|rfl:=jC k
  .exact h.ln t k
  .show((x.told.getD (y.id-1).toNat default).items++L).length<=10
   rw[i,<-hl];omega
 .have:=po x.told (y.id-1).toNat {x.told.getD (y.id-1).toNat default with items:=(x.told.getD (y.id-1).toNat default).items++L} f
  rw[b]at this;have e:fh (x.told.set (y.id-1).toNat {x.told.getD (y.id-1).toNat default with items:=(x.told.getD (y.id-1).toNat default).items++L})=fh x.told:=by omega
  exact e.trans h.cn
def Py(h:jf x)(b:cI c B x){y0:ej}(k:y0∈x.qs)(o:y0.id=y.id)(f:bZ->bZ)(q:∀t,(f t).id=t.id)(p:∀t,(f t).live=false)(r:∀t,(f t).items=t.items):
 jf (js c (x.tell y.id f) y).1:=by
 have⟨g,s,u⟩:=b.idx k;rw[o]at g s u;have l:=(h.op _ g).2 ⟨y0,k,by omega⟩;have v:=b.qy y0 k;have⟨m,_⟩:=OL b.sl v.at';rw[o]at m;have w:qR x.who y.id=x.who.set y0.slot.toNat 0:=by unfold qR;rw[m]
 refine⟨λj d=> ?_,λj d=> ?_,λz a=> ?_,λt i=> ?_,?_⟩
 .have d:j<x.told.length:=by simpa[js,cB.cancels,cB.tell]using d
  show((x.told.set _ _).getD j ()).id=_
  rw[kW _ _ _ _ g];split
  .rename_i e;subst e;rw[q];exact h.ids _ d
  .exact h.ids _ d
 .have d:j<x.told.length:=by simpa[js,cB.cancels,cB.tell]using d
  show((x.told.set _ _).getD j ()).live=true↔∃z∈x.qs.filter (λz=>z.id !=y.id),_
  rw[kW _ _ _ _ g];split
  .rename_i e
   subst e;rw[p];constructor
   .intro e;cases e
   .rintro⟨z,a,e⟩
    rw[Fl]at a;exact bL (by omega:z.id=y.id) (by simpa using a.2)
  .rename_i e
   rw[h.op _ d];constructor
   .rintro⟨z,a,n⟩
    exact⟨z,List.mem_filter.2 ⟨a,by simp;omega⟩,n⟩
   .rintro⟨z,a,n⟩
    exact⟨z,(List.mem_filter.1 a).1,n⟩
 .have a:z∈x.qs.filter (λz=>z.id !=y.id):=a
  rw[Fl]at a;have A:z.id≠y.id:=by simpa using a.2
  have⟨_,C,E⟩:=b.idx a.1
  show((x.told.set _ _).getD _ ()).items=_/\_
  rw[kW _ _ _ _ g,aC (by omega)];exact h.it z a.1
 .have i:t∈x.told.set (y.id-1).toNat (f (x.told.getD (y.id-1).toNat default)):=i
  obtain i|rfl:=jC i
  .exact h.ln t i
  .rw[r];exact h.ln _ (U7 g)
 .have:=po x.told (y.id-1).toNat (f (x.told.getD (y.id-1).toNat default)) g
  rw[l,p]at this;have e:fh (x.told.set (y.id-1).toNat (f (x.told.getD (y.id-1).toNat default)))=fh x.told-1:=by
   rw[aI rfl,aC (by decide)]at this;omega
  refine Eq.trans e ?_
  show _=cntF (qR x.who y.id)
  rw[w,Jg b.sl m,<-h.cn]
def EE(n:Int):∀(f:Nat) (a:List jv) (told out:List aY),∃L,(dK n f a told out).2.1=told++L/\(dK n f a told out).2.2=out++L
 |0,_,_,_=>⟨[],by simp[dK],by simp[dK]⟩
 |f+1,a,told,out=>by
  unfold dK;split
  .exact⟨[],by simp,by simp⟩
  .rename_i j _
   have⟨L,b,d⟩:=EE n f (a.set j (a.getD j ()).pop) (told++ [(a.getD j ()).hd]) (out++ [(a.getD j ()).hd]);exact⟨(a.getD j ()).hd::L,by rw[b];simp,by rw[d];simp⟩
def Kv(n:Int):∀(f:Nat) (b:List jv) (told out:List aY),(told.length:Int)<=n->((dK n f b told out).2.1.length:Int)<=n
 |0,_,_,_,h=>h
 |f+1,b,told,out,h=>by
  unfold dK;split
  .exact h
  .rename_i j a
   refine Kv n f _ _ _ ?_;unfold nH at a;split at a
   .cases a
   .rename_i hd
    unfold jM at hd;simp only[Bool.or_eq_true,ei,not_or]at hd;have:=hd.1;simp only[bF,cG,dx];omega
def Rd(y:ej):ej:={y with ss:=(dK y.n (cY y.ss) y.ss y.mt []).1,mt:=(dK y.n (cY y.ss) y.ss y.mt []).2.1}
def Re(x:cB)(y:ej):cB:=(x.put (Rd y)).tell y.id λt=>{t with items:=t.items++(dK y.n (cY y.ss) y.ss y.mt []).2.2}
def Rf(t:bZ):bZ:={t with done:=true}
def zK(x:cB)(y:ej):eG c x y=if jM y.n (Rd y).ss (Rd y).mt then js c ((Re x y).tell y.id Rf) (Rd y)else(Re x y,[]):=rfl
def abk(h:cI c B x){y0:ej}(d:y0∈x.qs)(e:y0.id=y.id)(a:iH c B x y):cI c B (Re x y)/\Rd y∈(Re x y).qs:=by
 have b:iH c B x (Rd y):=⟨a.at',a.n1,a.n2,a.k0,a.k4,a.tx,by unfold Rd;simp only;rw[vz];exact a.sl,a.hl,a.hs⟩;exact⟨um (Nh h d (y:=Rd y) e b) _ _,F0 d e⟩
def abl(h:jf x)(a:cI c B x){y0:ej}(b:y0∈x.qs)(f:y0.id=y.id)(hm:y.mt=y0.mt)(d:y.n=y0.n):jf (Re x y):=by
 have⟨L,l1,l2⟩:=EE y.n (cY y.ss) y.ss y.mt [];have g:=Kv y.n (cY y.ss) y.ss y.mt [] (by rw[hm,d];exact(h.it y0 b).2);have e:Re x y=(x.put (Rd y)).tell (Rd y).id λt=>{t with items:=t.items++L}:=by
  unfold Re;rw[l2];rfl
 rw[e];have q:=a.qy y0 b;exact Yo h a b (y:=Rd y) f L (by rw[<-hm];exact l1) g (by show y.n<=10;rw[d];exact q.n2)
def Pz(h:jf x)(a:cI c B x){y0:ej}(b:y0∈x.qs)(d:y0.id=y.id)(f:y.mt=y0.mt)(g:y.n=y0.n)(i:iH c B x y):jf (eG c x y).1:=by
 have e:=abl h a b d f g;have⟨j,k⟩:=abk a b d i;rw[zK];split
 .exact Py e j k (y:=Rd y) rfl Rf (λ_=>rfl) (λt=>by simp[Rf,bZ.live]) (λ_=>rfl)
 .exact e
def abm(h:jf x){y0:ej}(b:y0∈x.qs)(d:y0.id=y.id)(e:y.mt=y0.mt)(f:y.n=y0.n):jf (x.put y):=by
 refine⟨h.ids,λk g=> ?_,λz i=> ?_,h.ln,h.cn⟩
 .show _↔∃z∈nO x.qs y,_
  rw[Px];exact h.op k g
 .obtain rfl|⟨a,_⟩:=rp i
  .have:=h.it y0 b
   rw[d]at this;rw[e,f];exact this
  .exact h.it z a
def CR(t:bZ):bZ:={t with cancelled:=true}
def Rg(h:jf x)(a:cI c B x)(id:Int):jf (cX c x id).1:=by
 unfold cX;split
 .exact h
 .rename_i y b
  have⟨d,hid⟩:=jQ b;subst hid;exact Py h a d rfl CR (λ_=>rfl) (λt=>by simp[CR,bZ.live]) (λ_=>rfl)
def Yp(h:jf x)(f:cI c B x){text:ByteArray}{k n:Int}(m:cntF x.who≠x.who.length)(s:0<=n):jf (qI c x text k n):=by
 have o:cK x.who<x.who.length:=by
  have:=tP x.who;have p:cK x.who≠x.who.length:=λe=>m ((tN f.sl).2 e)
  omega
 have q:=f.tl;have u:(x.last-0).toNat=x.told.length:=by omega
 have b:∀j,j<x.told.length->(x.told++ [(⟨x.last+1,text,k,n,[],false,false⟩:bZ)]).getD j ()=x.told.getD j ():=λj l=>by
  simp[aU,gZ l]
 have d:(x.told++ [(⟨x.last+1,text,k,n,[],false,false⟩:bZ)]).getD x.told.length ()=⟨x.last+1,text,k,n,[],false,false⟩:=by
  simp[aU]
 unfold qI;refine⟨λj l=> ?_,λj l=> ?_,λz a=> ?_,λt i=> ?_,?_⟩
 .simp only[bF,cG,dx]at l
  obtain g|g:=Nat.lt_or_ge j x.told.length
  .rw[b j g];exact h.ids j g
  .obtain rfl:j=x.told.length:=by omega
   rw[d]
   show x.last+1=_
   omega
 .simp only[bF,cG,dx]at l
  obtain g|g:=Nat.lt_or_ge j x.told.length
  .rw[b j g,h.op j g]
   constructor
   .rintro⟨z,a,e⟩;exact⟨z,List.mem_append_left _ a,e⟩
   .rintro⟨z,a,e⟩
    obtain a|a:=List.mem_append.1 a
    .exact⟨z,a,e⟩
    .simp only[cm]at a
     subst a;have e:x.last+1=_:=e;omega
  .obtain rfl:j=x.told.length:=by omega
   rw[d];refine⟨λ_=>⟨_,List.mem_append_right _ (List.mem_singleton.2 rfl),?_⟩,λ_=>rfl⟩
   show x.last+1=_
   omega
 .obtain a|a:=List.mem_append.1 a
  .have⟨r,v,w⟩:=f.idx a
   show((x.told++_).getD _ ()).items=_/\_
   rw[b _ r];exact h.it z a
  .simp only[cm]at a
   subst a
   show((x.told++_).getD (x.last+1-1).toNat default).items=[]/\((0:Nat):Int)<=n
   rw[show(x.last+1-1).toNat=x.told.length by omega,d];exact⟨rfl,by omega⟩
 .obtain i|i:=List.mem_append.1 i
  .exact h.ln t i
  .simp only[cm]at i
   subst i;simp
 .show fh (x.told++_)=cntF (x.who.set (cK x.who) (x.last+1))
  rw[Fx f.sl o,<-h.cn];unfold fh;rw[List.countP_append];rfl
def Rh(h:jf x)(a:cI c B x)(text:ByteArray)(k n:Int):jf (dq c x text k n).1:=by
 by_cases b:(jD (ie text k n) x.who x.last).1=3
 .rw[iJ b]
  have⟨d,e,_⟩:=nP b;have⟨f,g⟩:=F2 a d e;exact Pz (Yp h a e (by have:=(vA d).2.2.2.1;omega)) f (List.mem_append.2 (.inr (List.mem_singleton.2 rfl))) rfl rfl rfl g
 .rw[iO b]
  exact h
def U8(h:jf x)(b:cI c B x)(r:lr):jf (eX c x r).1:=by
 unfold eX;split
 .exact h
 split
 .exact h
 .rename_i y e
  have⟨hm,hid⟩:=jQ e;have a:=b.qy y hm;split
  .exact h
  split
  .exact h.same rfl rfl rfl
  .rename_i ss hs
   have d:ss.length=y.ss.length:=by
    unfold qt at hs;split at hs
    .cases hs
    .split at hs
     .obtain rfl:=Option.some.inj hs
      exact ds
     .cases hs
   have h1:cI c B {x with L:=kB c.workers c.aS x.L r.worker r.aW x.now,T:=(dE (x.T,x.tn) (bY y.slot r.aR)).1,tn:=(dE (x.T,x.tn) (bY y.slot r.aR)).2}:=
    (cI.aS b (kB c.workers c.aS x.L r.worker r.aW x.now)).time (λid hi=>b.tm id (rn hi)) _
   refine Pz (B:=B) (jf.same (x':={x with L:=kB c.workers c.aS x.L r.worker r.aW x.now,T:=(dE (x.T,x.tn) (bY y.slot r.aR)).1,tn:=(dE (x.T,x.tn) (bY y.slot r.aR)).2}) h rfl rfl rfl) h1 (y0:=y) hm rfl rfl rfl ?_;exact⟨a.at',a.n1,a.n2,a.k0,a.k4,a.tx,by simp only;rw[d];exact a.sl,a.hl,a.hs⟩
def Yq(h:jf x)(a:cI c B x)(m:cd):jf (dU c x m).1:=by
 unfold dU;split
 .exact h.same rfl rfl rfl
 .exact U8 h a _
 .exact h
def Ns(x:cB)(y:ej)(s:Nat)(a:Int):(∃T n,(cL c x y s a).1={x with T:=T,tn:=n})/\∃sh,(cL c x y s a).2.1={y with sh:=sh}:=by
 unfold cL;simp only;split
 .exact⟨⟨_,_,rfl⟩,⟨_,rfl⟩⟩
 .split
  .exact⟨⟨_,_,rfl⟩,⟨_,rfl⟩⟩
  .split
   .exact⟨⟨x.T,x.tn,rfl⟩,⟨_,rfl⟩⟩
   .exact⟨⟨x.T,x.tn,rfl⟩,⟨y.sh,rfl⟩⟩
def xx(a:Int):∀(l:List Int) (x:cB) (y:ej) (ls:List fF),(∃T n,(dL c a l x y ls).1={x with T:=T,tn:=n})/\∃sh,(dL c a l x y ls).2.1={y with sh:=sh}
 | [],x,y,ls=>⟨⟨x.T,x.tn,rfl⟩,⟨y.sh,rfl⟩⟩
 |s::l,x,y,ls=>by
  unfold dL;have⟨⟨T,n,h1⟩,sh,h2⟩:=Ns (c:=c) x y s.toNat a;have⟨⟨d,e,f⟩,b,g⟩:=xx a l (cL c x y s.toNat a).1 (cL c x y s.toNat a).2.1 (ls++(cL c x y s.toNat a).2.2);refine⟨⟨d,e,?_⟩,b,?_⟩
  .rw[f,h1]
  .rw[g,h2]
structure pV(x x':cB):Prop where
 told:x'.told=x.told
 who:x'.who=x.who
 last:x'.last=x.last
 now:x'.now=x.now
 le:x'.L=x.L
 ids:x'.qs.map ej.id=x.qs.map ej.id
 ss:x'.qs.map ej.ss=x.qs.map ej.ss
 td:jf x->jf x'
def pV.refl(x:cB):pV x x:=⟨rfl,rfl,rfl,rfl,rfl,rfl,rfl,id⟩
def pV.trans{a:cB}(h:pV x x')(k:pV x' a):pV x a:=
 ⟨k.told.trans h.told,k.who.trans h.who,k.last.trans h.last,k.now.trans h.now,k.le.trans h.le,k.ids.trans h.ids,k.ss.trans h.ss,λe=>k.td (h.td e)⟩
def Yr(a:List ej)(b:(a.map ej.id).Nodup){y0 y:ej}(d:y0∈a)(f:y0.id=y.id)(g:y.ss=y0.ss):(nO a y).map ej.ss=a.map ej.ss:=by
 unfold nO;rw[fT];refine jh λz h=> ?_
 simp only[Function.comp_apply];split
 .rename_i e
  rw[g,Pd b d h (f.trans e.symm)]
 .rfl
def Nt(b:cI c B x)(slot:Nat)(a:Int)(l:List fF):pV x (lE c x slot a l).1:=by
 unfold lE;split
 .exact .refl x
 split
 .exact .refl x
 .rename_i y d
  have⟨hm,_⟩:=jQ d;have⟨⟨T,n,h1⟩,sh,h2⟩:=xx (c:=c) a (ki y.n y.ss y.mt) x y l;simp only[h1,h2];refine⟨rfl,rfl,rfl,rfl,rfl,AZ _ _,Yr _ b.nd hm rfl rfl,λh=> ?_⟩;have:=abm (y:={y with sh:=sh}) h hm rfl rfl rfl;exact this.same rfl rfl rfl
def xy(b:cI c B x)(d:0<=B)(a:Int):∀k:Nat,pV x (dM c x a k).1
 |0=>.refl x
 |k+1=>by
  unfold dM;exact(xy b d a k).trans (Nt (ni b d a k) k a _)
def Ri(b:cI c B x)(d:0<=B)(a:Int):pV x (iD c x a).1:=xy b d a _
def EF(x:cB):Prop:=∀y∈x.qs,∀m∈y.ss,m.last.2.size<=1000
def EF.same(h:EF x)(a:x'.qs.map ej.ss=x.qs.map ej.ss):EF x':=λy b m d=>by
 have:y.ss∈x'.qs.map ej.ss:=List.mem_map.2 ⟨y,b,rfl⟩;rw[a]at this;have⟨z,f,e⟩:=List.mem_map.1 this;exact h z f m (e▸d)
variable{P:aY->Prop}
def A_(n:Int):∀(f:Nat) (a:List jv) (told out:List aY),(∀m∈a,P m.last)->∀m∈(dK n f a told out).1,P m.last
 |0,_,_,_,h=>h
 |f+1,a,told,out,h=>by
  unfold dK;split
  .exact h
  .rename_i j d
   refine A_ n f _ _ _ λm b=> ?_
   obtain b|rfl:=jC b
   .exact h m b
   .show P (a.getD j ()).last
    exact h _ (bh _ _ (JE d).1)
def PA(h:EF x)(y:ej):EF (js c x y).1:=λz a=>h z (List.mem_filter.1 a).1
def PB(h:EF x){y:ej}(d:∀m∈y.ss,m.last.2.size<=1000):EF (eG c x y).1:=by
 have b:EF (Re x y):=λz a=>by
  obtain rfl|⟨a,_⟩:=rp a
  .exact A_ y.n (P:=λi=>i.2.size<=1000) _ _ _ _ d
  .exact h z a
 rw[zK];split
 .exact PA (x:=(Re x y).tell y.id Rf) b _
 .exact b
def Rj(h:EF x)(text:ByteArray)(k n:Int):EF (dq c x text k n).1:=by
 by_cases d:(jD (ie text k n) x.who x.last).1=3
 .rw[iJ d]
  have a:∀m∈(lD c (x.last+1) (cK x.who) text k n).ss,m.last.2.size<=1000:=λm e=>by
   obtain⟨s,_,rfl⟩:=List.mem_map.1 e;exact bz _
  refine PB (λy b=> ?_) a;obtain b|b:=List.mem_append.1 b
  .exact h y b
  .rw[List.mem_singleton.1 b]
   exact a
 .rw[iO d]
  exact h
def Rk(h:EF x)(id:Int):EF (cX c x id).1:=by
 unfold cX;split
 .exact h
 .rename_i y a
  exact PA (x:=x.tell id λt=>{t with cancelled:=true}) h y
def U9{r:lr}(h:nJ r=true):∀i∈r.items,i.2.size<=48:=λi a=>by
 unfold nJ sO at h;simp only[cV,pC]at h;have:=h.1.1 i a;unfold nF at this;simp only[cV]at this;exact nh this.2
def Nu{n:Int}{e d:List jv}{told:List aY}{i f:Int}{a:List aY}{g:Bool}(h:qt n e told i f a g=some d)(o:∀m∈e,P m.last)(p:∀i∈a,P i):∀m∈d,P m.last:=by
 unfold qt at h;split at h
 .cases h
 .rename_i k b
  split at h
  .obtain rfl:=Option.some.inj h
   have b:k<e.length:=by
    unfold w_ at b;split at b
    .cases b
    .rename_i j q
     split at b
     .cases b
     .obtain rfl:=Option.some.inj b
      exact vh q
   intro m l;obtain l|rfl:=jC l
   .exact o m l
   .show P (a.getLast?.getD _)
    cases hl:a.getLast? with
    |none=>exact o _ (bh _ _ b)
    |some z=>exact p z (List.mem_of_getLast? hl)
  .cases h
def U_(h:EF x)(r:lr):EF (eX c x r).1:=by
 unfold eX;split
 .exact h
 rename_i a;have a:nJ r=true:=by
  cases hb:nJ r
  .simp[hb]at a
  .rfl
 split
 .exact h
 .rename_i y b
  have⟨hm,hid⟩:=jQ b;split
  .exact h
  split
  .exact h
  .rename_i ss hs
   refine PB (x:={x with L:=kB c.workers c.aS x.L r.worker r.aW x.now,T:=(dE (x.T,x.tn) (bY y.slot r.aR)).1,tn:=(dE (x.T,x.tn) (bY y.slot r.aR)).2}) h ?_;exact Nu hs (P:=λi=>i.2.size<=1000) (h y hm) λi hi=>bD (U9 a i hi) (by decide)
def Ys(h:EF x)(m:cd):EF (dU c x m).1:=by
 unfold dU;split
 .exact h
 .exact U_ h _
 .exact h
def xz(c:aV)(l:List fF):Prop:=∀y∈l,1<=y.dst/\y.dst<=c.workers
def xz.nil:xz c []:=λ_ h=>by cases h
def xz.app{a b:List fF}(d:xz c a)(e:xz c b):xz c (a++b):=λy f=>(List.mem_append.1 f).elim (d y) (e y)
def sY(c:aV)(slot id:Int):List fF:=(List.range c.workers.toNat).map λw:Nat=>⟨(w:Int)+1,.stop slot id⟩
def Ba(slot id:Int):xz c (sY c slot id):=λy a=>by
 obtain⟨w,b,rfl⟩:=List.mem_map.1 a;have:=List.mem_range.1 b;simp only;omega
def vH(slot id:Int):(sY c slot id).length=c.workers.toNat:=by simp[sY]
def Kw(x:cB)(y:ej):(eG c x y).2=[]∨(eG c x y).2=sY c y.slot y.id:=by
 rw[zK];split
 .exact .inr rfl
 .exact .inl rfl
def Nv(x:cB)(text:ByteArray)(k n:Int):(dq c x text k n).2.2=[]∨∃s i,(dq c x text k n).2.2=sY c s i:=by
 by_cases a:(jD (ie text k n) x.who x.last).1=3
 .rw[iJ a]
  obtain e|e:=Kw (c:=c) (qI c x text k n) (lD c (x.last+1) (cK x.who) text k n)
  .exact .inl e
  .exact .inr ⟨_,_,e⟩
 .rw[iO a]
  exact .inl rfl
def Nw(x:cB)(id:Int):(cX c x id).2=[]∨∃s i,(cX c x id).2=sY c s i:=by
 unfold cX;split
 .exact .inl rfl
 .exact .inr ⟨_,_,rfl⟩
def Kx{n w:Int}(h:fy n w=true):1<=w/\w<=n:=by
 unfold fy at h;simp only[cV,ei]at h;omega
def Va(x:cB)(w l:Int):(pe c x w l).2=[]∨∃e,(pe c x w l).2=[⟨w,.grant w l e⟩]/\fy c.workers w=true:=by
 unfold pe;simp only;split
 .rename_i h
  refine .inr ⟨_,rfl,?_⟩;unfold mK at h;cases hv:fy c.workers w
  .simp[hv]at h
  .rfl
 .exact .inl rfl
def Rl(x:cB)(r:lr):(eX c x r).2=[]∨∃s i,(eX c x r).2=sY c s i:=by
 unfold eX;split
 .exact .inl rfl
 split
 .exact .inl rfl
 split
 .exact .inl rfl
 split
 .exact .inl rfl
 .rename_i y _ _ _ ss _
  rcases Kw (c:=c) {x with L:=kB c.workers c.aS x.L r.worker r.aW x.now,T:=(dE (x.T,x.tn) (bY y.slot r.aR)).1,tn:=(dE (x.T,x.tn) (bY y.slot r.aR)).2} {y with ss:=ss}with e|e
  .exact .inl e
  .exact .inr ⟨_,_,e⟩
def PC(x:cB)(m:cd)(d:1<=c.workers/\c.workers<=5):xz c (dU c x m).2/\(dU c x m).2.length<=5:=by
 unfold dU;split
 .rename_i w l
  obtain e|⟨f,e,a⟩:=Va (c:=c) x w l
  .rw[e];exact⟨xz.nil,by simp⟩
  .rw[e]
   refine⟨λy b=> ?_,by simp⟩;rw[List.mem_singleton.1 b];exact Kx a
 .rename_i r
  obtain e|⟨s,i,e⟩:=Rl (c:=c) x r
  .rw[e];exact⟨xz.nil,by simp⟩
  .rw[e];exact⟨Ba _ _,by rw[vH];omega⟩
 .exact⟨xz.nil,by simp⟩
def rS(x:cB)(text:ByteArray)(k n:Int)(a:1<=c.workers/\c.workers<=5):xz c (dq c x text k n).2.2/\(dq c x text k n).2.2.length<=5:=by
 obtain e|⟨s,i,e⟩:=Nv (c:=c) x text k n
 .rw[e];exact⟨xz.nil,by simp⟩
 .rw[e];exact⟨Ba _ _,by rw[vH];omega⟩
def rT(x:cB)(id:Int)(a:1<=c.workers/\c.workers<=5):xz c (cX c x id).2/\(cX c x id).2.length<=5:=by
 obtain e|⟨s,i,e⟩:=Nw (c:=c) x id
 .rw[e];exact⟨xz.nil,by simp⟩
 .rw[e];exact⟨Ba _ _,by rw[vH];omega⟩
def uz(x:cB)(y:ej)(s:Nat)(a:Int):xz c (kD c x y s a)/\(kD c x y s a).length<=1:=by
 unfold kD;simp only;split
 .exact⟨xz.nil,by simp⟩
 .rename_i h
  refine⟨λz b=> ?_,by simp⟩;rw[List.mem_singleton.1 b];unfold mJ at h;split at h
  .rename_i d;exact Kx d
  .exact bL rfl h
def Vb(x:cB)(y:ej)(s:Nat)(a:Int):xz c (cL c x y s a).2.2/\(cL c x y s a).2.2.length<=1:=by
 unfold cL;simp only;split
 .exact uz _ _ _ _
 .split
  .exact uz _ _ _ _
  .split
   .exact uz _ _ _ _
   .exact⟨xz.nil,by simp⟩
def EG(a:Int):∀(l:List Int) (x:cB) (y:ej) (b:List fF),xz c b->xz c (dL c a l x y b).2.2/\(dL c a l x y b).2.2.length<=b.length+l.length
 | [],x,y,b,h=>⟨h,by simp[dL]⟩
 |s::l,x,y,b,h=>by
  unfold dL;have⟨d,g⟩:=Vb (c:=c) x y s.toNat a;have⟨e,f⟩:=EG a l (cL c x y s.toNat a).1 (cL c x y s.toNat a).2.1 (b++(cL c x y s.toNat a).2.2) (h.app d);refine⟨e,?_⟩;rw[bF]at f;simp only[cG];omega
def EH(b:cI c B x)(e:0<=B)(a:Int):∀k:Nat,xz c (dM c x a k).2/\(dM c x a k).2.length<=6*k
 |0=>⟨xz.nil,by simp[dM]⟩
 |k+1=>by
  have⟨d,f⟩:=EH b e a k;have g:=ni b e a k;unfold dM lE;split
  .exact⟨d,bD f (by omega)⟩
  split
  .exact⟨d,bD f (by omega)⟩
  .rename_i y h
   have⟨i,_⟩:=jQ h;have⟨j,l⟩:=EG (c:=c) a (ki y.n y.ss y.mt) (dM c x a k).1 y (dM c x a k).2 d;have m:=nQ y.n y.ss y.mt;have o:=(g.qy y i).sl;have p:=cW c;exact⟨j,bD l (by omega)⟩
def F9(b:cI c B x)(d:0<=B)(a:Int):xz c (iD c x a).2/\(iD c x a).2.length<=24:=by
 have⟨e,f⟩:=EH b d a c.slots.toNat;have:=(aV.bounds b.may).s2;exact⟨e,by unfold iD;omega⟩
end Go.Proofs.YtjpnlfpompnpkaaGreat
