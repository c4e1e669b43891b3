import Derived.Test.YtjpnlfpompnpkaaGreatP11
import Derived.Test.YtjpnlfpompnpkaaGreatP14
namespace Go.Proofs.YtjpnlfpompnpkaaGreat
open Go.RowKit Go.Proofs.Tryz
open Go.Value renaming int->an,slice->av,bool->aw,string->aA,tuple->aM,pointer->aL,agg->aG
open Go.IntKind renaming i64->ar
open Go.Ending renaming returned->ax
open Go.Obj renaming cells->aB
open Go renaming World->ae,Value->ah,Calls->aj,Ending->ak
open Go.RowKit renaming Below->ai
set_option maxRecDepth 100000
set_option linter.all false
set_option maxHeartbeats 2000000
open Go.ChangeMaps mX
variable{P:Tg->Prop}{τ br:cj}{w w':ae}{c:aV}
variable{m:jG}{x:cB}
def ae8(h:cJ c τ w m x)(j:0<=x.now)(k:x.now<=1099511627776):aj prog 66 #[m.cb] w λe w'=>e=ax (aM #[])/\cJ c τ w' m (AY x)/\Fr dB τ τ w w':=by
 have⟨a,b⟩:=h.tick (min (x.now+1) 1099511627776);have d:=h.bx;have f:=h.cells.c13;have g:=bB d 13;have i:=au (show∀y,y=w.setCell ⟨m.cb,13,none⟩ (min (x.now+1) 1099511627776:Int)->cJ c τ y m (AY x)/\Fr dB τ τ w y fromλy e=>by subst e;exact⟨a,b⟩);generalize m.cb=cb at*;generalize x.now=now at*;go_in;go_wp2
 go_end0
 exact⟨rfl,i.o _ rfl⟩
def X7(h:cJ c τ w m x):aj prog 36 #[m.cb] w λe w'=>e=ax (x.tn:Int)/\w=w':=by
 have b:=au (Xj h.i.a);have d:=h.cells.c16;generalize m.cb=cb at*;go_in;go_wp2_with fail
 refine aH b.o ?_;go_wp2;go_ret;exact⟨rfl,rfl⟩
def UP(h:cJ c τ w m x)(a:Int):aj prog 38 #[m.cb,(a:Int)] w λe w'=>e=ax (mJ c.workers x.L a:Int)/\w=w':=by
 have b:=au (Tv h.l.a a);have d:=h.cells.c14;generalize m.cb=cb at*;go_in;go_wp2_with fail
 refine aH b.o ?_;go_wp2;go_ret;exact⟨rfl,rfl⟩
def I2.trans{b:Nat}{y:cB}{a:ae}(h:I2 c b x τ w w')(f:∀br m,cJ c br w' m x->m.cb=b->I2 c b y br w' a):I2 c b y τ w a:=by
 obtain⟨d,g,i,j,k⟩:=h;have⟨e,l,n,o,p⟩:=f d g i j;exact⟨e,l,n,o,k.trans p⟩
def I2.of(h:cJ c τ w m x){y:ae}(a:ai w w y):I2 c m.cb x τ w y:=⟨_,m,(h.same a .keep).1,rfl,(h.same a .keep).2⟩
def Q5.row{f:Option Nat}{g:ah}{e:List lN}(h:Q5 τ w f g e)(i:0<e.length):∃tb a d,f=some tb/\g=av (some ⟨tb,a,none⟩) e.length d/\tb<w.heap.size:=by
 have⟨b,a,d,j,k,l,_⟩:=h.s.cell (by decide) 0 i;exact⟨b,a,d,j,k,l⟩
def cJ.flag(h:cJ c τ w m x){k:Nat}(b:k<m.ts.length){tb a g:Nat}(n:m.dg=some tb)(p:m.dv=av (some ⟨tb,a,none⟩) m.ts.length g){j:Nat}(q:j<7){u:ah}(f:bZ->bZ)(s:(f (m.ts[k]).t).items=(m.ts[k]).t.items)
 (v:(lN.mk (f (m.ts[k]).t) (m.ts[k]).iv (m.ts[k]).ig).cells=(m.ts[k]).cells.set j u) (id:Int) (hid:(id-1).toNat=k):
 ∃i,cJ c τ (w.setCell ⟨tb,a+(k*7+j),none⟩ u) (m.UL m.dv m.dg i) (x.tell id f)/\Fr dB τ τ w (w.setCell ⟨tb,a+(k*7+j),none⟩ u):=by
 have l:Fr (·=.told) τ τ w (w.setCell ⟨tb,a+(k*7+j),none⟩ u):=Fr.fm ((aQ.refl [tb] w).setCell _ (by simp) _) (by simpa using h.d.t tb n);have⟨y,z⟩:=h.d.put b n p q v (by
  show Seg _ _ 2 (m.ts[k]).ig (m.ts[k]).iv (dT (f (m.ts[k]).t).items) (f (m.ts[k]).t).items.length
  rw[s];exact((h.d.r k b).fr l (h.d.tr k b) (by simp)).1) (h.d.tr k b)
 have⟨o,A⟩:=h.tell y (z.mono λt e=>.inl e);refine⟨m.ts.set k ⟨f (m.ts[k]).t,(m.ts[k]).iv,(m.ts[k]).ig⟩,?_,A⟩;have e:(m.ts.set k ⟨f (m.ts[k]).t,(m.ts[k]).iv,(m.ts[k]).ig⟩).map lN.t=x.told.set (id-1).toNat (f (x.told.getD (id-1).toNat default)):=by
  rw[<-h.dv,hid,List.map_set];congr 1;simp[aU,b]
 rw[e]at o;exact o
def eT{i:Type}{f:i->List ah}{sz:Nat}(b:∀x,(f x).length=sz):∀(l:List i) (k j:Nat) (d:k<l.length),j<sz->(l.flatMap f)[k*sz+j]? =(f l[k])[j]?
 |a::l,0,j,d,g=>by
  rw[eI,Nat.zero_mul,eJ,gZ (by rw[b];exact g)];rfl
 |a::l,k+1,j,d,g=>by
  have h:k<l.length:=by simpa using d
  have e:(k+1)*sz+j=(f a).length+(k*sz+j):=by rw[b,Nat.succ_mul];omega
  rw[eI,e,g_ (by omega),Nat.add_sub_cancel_left,eT b l k j h g];simp
def CnP(c:aV)(cb:Nat)(r:cB×List fF)(τ:cj)(w:ae)(e:ak)(w':ae):Prop:=∃v n,e=ax (aM #[v,an ar n])/\eH w w' v r.2/\I2 c cb r.1 τ w w'
def cI.nums{B:Int}(h:cI c B x){y:ej}(a:y∈x.qs):0<=y.slot/\y.slot<=3/\1<=y.id/\y.id<=x.told.length:=by
 have⟨b,d,e,f⟩:=(h.qy y a).slot h.sl;have:=h.four;have:=h.tl;omega
def X8{B:Int}(h:cJ c τ w m x)(g:cI c B x)(hB:B<=1000000000)(id:Int)(hid:ld id):aj prog 65 #[m.cb,(id:Int)] w (CnP c m.cb (cX c x id) τ w):=by
 have i:=h.q.m.look (t:=109) underlying109 F7 hid;have M:=h.cells;have W:=M.c17;have F:=M.c18;obtain⟨G,H⟩|⟨k,N,Y,G,H⟩:=h.find id
 .rw[H]at i
  simp only[Option.getD_none]at i;have E:=au (show CnP c m.cb (cX c x id) τ w (ax (aM #[(),an ar 4])) w by
   have:cX c x id=(x,[]):=by unfold cX;rw[G]
   rw[this];exact⟨_,_,rfl,eH.nil _ _,I2.of h (aO _ _)⟩)
  generalize CnP c m.cb (cX c x id) τ w=Q at*;generalize m.cb=cb at*;go_in;go_wp2;exact E.o
 .rw[show ur m.qs id=some (Value.pointer (some k.b))from H]at i
  simp only[Option.getD_some]at i;have Z:k.y∈x.qs:=by rw[<-h.qv];exact List.mem_map.2 ⟨k,N,rfl⟩
  have⟨n1,n2,n3,n4⟩:=g.nums Z;have r:=aV.bounds g.may;have z:m.ts.length=x.told.length:=by rw[<-h.dv,cr]
  have hll:(x.told.length:Int)<=1000000000:=by have:=g.tl;have:=g.lb;omega
  obtain⟨j,hj⟩:∃j:Nat,id-1=(j:Int):=⟨(id-1).toNat,by omega⟩
  have p:j<m.ts.length:=by omega
  have⟨tb,a,cap,O,I,e3⟩:=h.d.row (by omega);have⟨ts',h1,h2⟩:=h.flag p O I (j:=6) (by decide) (u:=aw true) (λt=>⟨t.id,t.text,t.k,t.n,t.items,t.done,true⟩) rfl rfl id (by omega);have A:=au (show aj prog 97 #[m.cb,k.b] (w.setCell ⟨tb,a+(j*7+6),none⟩ (aw true)) (pS c m.cb (js c (x.tell id λt=>⟨t.id,t.text,t.k,t.n,t.items,t.done,true⟩) k.y) τ (w.setCell ⟨tb,a+(j*7+6),none⟩ (aw true)))from Zu h1 (k:=k) N ⟨n1,n2⟩ ⟨by omega,by omega⟩ (by have:=cW c;omega) ⟨r.w1,r.w2⟩);have E:=au (show∀v y,pS c m.cb (js c (x.tell id λt=>⟨t.id,t.text,t.k,t.n,t.items,t.done,true⟩) k.y) τ (w.setCell ⟨tb,a+(j*7+6),none⟩ (aw true)) (ax v) y->CnP c m.cb (cX c x id) τ w (ax (aM #[v,an ar 0])) y fromλv y ⟨J,K,q2,q3⟩=>by
   obtain rfl:v=J:=by simpa using K
   have:cX c x id=js c (x.tell id λt=>⟨t.id,t.text,t.k,t.n,t.items,t.done,true⟩) k.y:=by unfold cX;rw[G]
   rw[this];obtain⟨L,m2,p1,p2,p3⟩:=q3;exact⟨v,0,rfl,by simpa using q2,L,m2,p1,p2,h2.trans p3⟩)
  have C:=au (show∀e y,pS c m.cb (js c (x.tell id λt=>⟨t.id,t.text,t.k,t.n,t.items,t.done,true⟩) k.y) τ (w.setCell ⟨tb,a+(j*7+6),none⟩ (aw true)) e y->∃v,e=ax v fromλe y ⟨J,K,_,_⟩=>⟨J,K⟩);have l:=h.d.s;rw[O,I]at l;have⟨b0,o0,T,s1,U,s3,s4⟩:=l.cell (by decide) j p;simp only[bA,bG,dr,et,bK]at s1 U;obtain⟨⟨rfl,rfl⟩,rfl⟩:=U;have⟨t6,f6⟩:=s4 6 (aw (m.ts[j]).t.cancelled) (by decide) (by rw[eT (f:=lN.cells) (λ_=>rfl) _ _ _ p (by decide)];rfl);rw[I,z]at F;rw[<-Nat.add_assoc]at A E C;generalize(m.ts[j]).t.cancelled=can at*;generalize hX:(x.tell id λt=>(⟨t.id,t.text,t.k,t.n,t.items,t.done,true⟩:bZ))=X at*;have z1:(0:Int)<=(j:Int):=by omega
  have z2:(j:Int)<(x.told.length:Int):=by omega
  have z3:id=(j:Int)+1:=by omega
  subst z3;have z4:(j:Int)+1-1=(j:Int):=by omega
  generalize pS c m.cb (js c X k.y) τ (w.setCell ⟨tb,a+j*7+6,none⟩ (aw true))=R at*;generalize CnP c m.cb (cX c x ((j:Int)+1)) τ w=Q at*;generalize m.cb=cb at*;generalize k.b=kb at*;go_in;go_wp2_with fail
  refine A.m ?_;intro e y V;obtain⟨v,rfl⟩:=C.o e y V;have HF:=au (E.o v y V);go_wp2;exact HF.o
section
open Go.ChangeMaps mX
variable{P:Tg->Prop}{τ br:cj}{w w':ae}{c:aV}
def Q5.grow{u:Option Nat}{v:ah}{a:List lN}(h:Q5 τ w u v a){k:Nat}(p:k<a.length){tb j y:Nat}(I:u=some tb)(J:v=av (some ⟨tb,j,none⟩) a.length y)(K:aQ (a[k]).ig.toList w w'){v':ah}{g':Option Nat}{d:List aY}
 (L:Seg w' 83 2 g' v' (dT d) d.length) (z:g'=(a[k]).ig∨∃b,g'=some b/\w.heap.size<=b) (t':bZ) (M:t'=⟨(a[k]).t.id,(a[k]).t.text,(a[k]).t.k,(a[k]).t.n,d,(a[k]).t.done,(a[k]).t.cancelled⟩):
 Q5 (eP τ w (.item k)) (w'.setCell ⟨tb,j+(k*7+4),none⟩ v') u v (a.set k ⟨t',v',g'⟩)/\Fr (λt=>t=.told∨∃k,t=.item k) τ (eP τ w (.item k)) w (w'.setCell ⟨tb,j+(k*7+4),none⟩ v'):=by
 subst I;subst J;subst M;have N:k*7+4<a.length*7:=by omega
 have q:Fr (·=.item k) τ (eP τ w (.item k)) w w':=Fr.dC K (λx O=>h.tr k p x (by simpa using O)) _;have⟨Q,F⟩:=h.s.fr q h.t (by simp);have A:Fr (·=.told) (eP τ w (.item k)) (eP τ w (.item k)) w' (w'.setCell ⟨tb,j+(k*7+4),none⟩ v'):=Fr.fm ((aQ.refl [tb] w').setCell _ (by simp) _) (by simpa using F tb rfl);have G:=Q.CE N v';rw[<-uu (f:=lN.cells) (λ_=>rfl) a k 4 ⟨⟨(a[k]).t.id,(a[k]).t.text,(a[k]).t.k,(a[k]).t.n,d,(a[k]).t.done,(a[k]).t.cancelled⟩,v',g'⟩ v' p (by decide) rfl]at G;have o:∀b,g'=some b->eP τ w (.item k) b=.item k:=λb m=>by
  obtain e|⟨V,e,B⟩:=z
  .have H:(a[k]).ig=some b:=by rw[<-e,m]
   rw[dZ ((h.r k p).lt b H)];exact h.tr k p b H
  .rw[e]at m
   simp only[bA]at m;subst m;exact d_ B
 refine⟨⟨by simpa using G,λi C=> ?_,λb m=>F b m,λi C=> ?_⟩,(q.mono λt e=>.inr ⟨k,e⟩).trans (A.mono λt e=>.inl e)⟩
 .have g:i<a.length:=by simpa using C
  rw[List.getElem_set];by_cases e:k=i
  .subst e
   rw[aI rfl];exact(L.fr A o (by simp)).1
  .rw[aC e]
   have l:¬(Tg.item i=Tg.item k):=by simpa usingλE:i=k=>e E.symm
   have⟨T,U⟩:=(h.r i g).fr q (h.tr i g) l;exact(T.fr A U (by simp)).1
 .have g:i<a.length:=by simpa using C
  rw[List.getElem_set];by_cases e:k=i
  .subst e
   rw[aI rfl];exact o
  .rw[aC e]
   have l:¬(Tg.item i=Tg.item k):=by simpa usingλE:i=k=>e E.symm
   exact((h.r i g).fr q (h.tr i g) l).2
open Classical in
noncomputable def mA (τ:cj) (n:Nat) (id:Int) (own:List Nat):cj:=λq=>if q<n then τ q else if q∈own then .mg id else .keep
def ej.Pk(y:ej)(ss:List jv)(mt:List aY):ej:=⟨y.id,y.slot,y.text,y.k,y.n,ss,mt,y.sh⟩
def jd.Pk(k:jd)(gt:Option Nat)(tv:ah)(ms:List dQ)(mt:List aY):jd:=⟨k.y.Pk (ms.map dQ.s) mt,k.b,k.p,k.gs,gt,k.sv,tv,ms⟩
def ph.told{k:jd}(h:ph τ w k){v j:ah}{r a:Option Nat}{ms':List dQ}{d out:List aY}(f:oG w w' k.p k.y.n k.gs k.gt k.sv k.ms v r a j ms' d out):
 ph (mA τ w k.y.id (eh k.p k.gs a ms')) w' (k.Pk a j ms' d)/\Fr (λt=>t=.FP k.y.id∨t=.mg k.y.id) τ (mA τ w k.y.id (eh k.p k.gs a ms')) w w'/\(∀b,r=some b->mA τ w k.y.id (eh k.p k.gs a ms') b=.keep):=by
 have l:Fr (·=.mg k.y.id) τ (mA τ w k.y.id (eh k.p k.gs a ms')) w w':=by
  refine⟨f.c.os,f.c.tape,f.c.output,f.c.size,λq i=> ?_,λq i u=>f.c.block q i λe=>u (h.tm q e)⟩;unfold mA;rw[aI i]
 refine⟨⟨l.at h.c (by show¬τ k.b=_;rw[h.t];simp),f.m,rfl,h.sh,h.tx,(l.old _ (az h.c)).trans h.t,λq i=> ?_⟩,l.mono λt e=>.inr e,λb x=> ?_⟩
 .show mA _ _ _ _ q=_
  by_cases s:q<w
  .rw[l.old q s]
   obtain o|o:=f.q q i
   .exact h.tm q o
   .omega
  .unfold mA
   rw[aC s,aI (show q∈eh k.p k.gs a ms' from i)];rfl
 .have⟨o,z⟩:=f.g b x
  unfold mA;rw[aC (by omega),aC z]
end
def xq(c:aV)(m:jG)(x:cB)(k:jd)(τ:cj)(w w':ae):Prop:=
 ∃br k' dg' ts',cJ c br w' ((m.vC (pj m.qs k')).UL m.dv dg' ts') ((x.put k'.y).tell k.y.id λt=>⟨t.id,t.text,t.k,t.n,t.items++(dK k.y.n (cY k.y.ss) k.y.ss k.y.mt []).2.2,t.done,t.cancelled⟩)/\
  k'.y=k.y.Pk (dK k.y.n (cY k.y.ss) k.y.ss k.y.mt []).1 (dK k.y.n (cY k.y.ss) k.y.ss k.y.mt []).2.1/\k'.b=k.b/\k'.p=k.p/\k'∈pj m.qs k'/\ts'.length=m.ts.length/\dg'=m.dg/\Fr dB τ br w w'
def xq.of{m:jG}{x:cB}(h:cJ c τ w m x){k:jd}(l:k∈m.qs){j:Nat}(G:j<m.ts.length)(hid:(k.y.id-1).toNat=j){tb B J:Nat}(H:m.dg=some tb)(hv:m.dv=av (some ⟨tb,B,none⟩) m.ts.length J)(hn:(m.ts[j]).t.items.length<=100000)
 {v g:ah} {og i:Option Nat} {ms':List dQ} {f out:List aY} {I:ae} (z:oG w I k.p k.y.n k.gs k.gt k.sv k.ms v og i g ms' f out) (K:dK k.y.n (cY (k.ms.map dQ.s)) (k.ms.map dQ.s) k.y.mt []=(ms'.map dQ.s,f,out)):
 I.heap[tb]? =w.heap[tb]? /\I.heap[k.b]? =w.heap[k.b]? /\∃v' A,(∀ty,(Builtin.append_ #[66,66] ty #[(m.ts[j]).iv,v]).run prog I=.ok v' A)/\(∃a n e,v'=av a n e)/\A.heap[tb]? =w.heap[tb]? /\xq c m x k τ w (A.setCell ⟨tb,B+(j*7+4),none⟩ v'):=by
 have⟨q1,V,q3⟩:=(h.q.r k l).told z;have L:=h.aa1 (k:=k.Pk i g ms' f) l rfl rfl V q1;obtain⟨C,c2⟩:=L;have E:=h.d.s.lt tb H;have M:=az (h.q.r k l).c;have W:=V.block tb E (by rw[h.d.t tb H];simp);have e2:=z.c.block k.b M λe=>by
  have:=(h.q.r k l).tm k.b e;rw[(h.q.r k l).t]at this;cases this
 have hol:out.length<=10:=by
  have:=z.b;have:=z.m.tl;have:=z.m.n2;omega
 have⟨v',A,N,r1,r2,X,r4⟩:=(C.d.r j G).add 66 underlying66 rN rfl (by decide) z.o (by intro u Y;simp only[dT,List.mem_flatMap,rK,bQ,ez,or_false]at Y;obtain⟨_,_,rfl|rfl⟩:=Y<;>rfl) (by show(m.ts[j]).t.items.length+out.length<=1000000;omega) (by decide);have F:Seg A 83 2 N v' (dT ((m.ts[j]).t.items++out)) ((m.ts[j]).t.items++out).length:=by
  rw[bF];unfold dT;rw[fQ];exact r2
 have⟨d1,d2⟩:=C.d.grow (k:=j) G H hv X F r4 _ rfl;have⟨c3,c4⟩:=C.tell d1 d2;obtain⟨O,Q,rfl,_⟩:=F.len;refine⟨W,e2,av O ((m.ts[j]).t.items++out).length Q,A,r1,⟨_,_,_,rfl⟩,?_,?_⟩
 .rw[X.block tb (bP E z.c.size) (λe=> ?_),W]
  have Z:=C.d.tr j G tb (by simpa using e);have t2:=C.d.t tb H;rw[t2]at Z;cases Z
 .have T:=(h.q.r k l).ss
  rw[T]at K;have U:(k.Pk i g ms' f).y.id=k.y.id:=rfl;refine⟨_,k.Pk i g ms' f,m.dg,m.ts.set j ⟨⟨(m.ts[j]).t.id,(m.ts[j]).t.text,(m.ts[j]).t.k,(m.ts[j]).t.n,(m.ts[j]).t.items++out,(m.ts[j]).t.done,(m.ts[j]).t.cancelled⟩,av O ((m.ts[j]).t.items++out).length Q,N⟩,?_,?_,rfl,rfl,?_,by simp,rfl,c2.trans c4⟩
  .have e:(m.ts.set j ⟨⟨(m.ts[j]).t.id,(m.ts[j]).t.text,(m.ts[j]).t.k,(m.ts[j]).t.n,(m.ts[j]).t.items++out,(m.ts[j]).t.done,(m.ts[j]).t.cancelled⟩,av O ((m.ts[j]).t.items++out).length Q,N⟩).map lN.t=
    x.told.set (k.y.id-1).toNat (let t:=x.told.getD (k.y.id-1).toNat default;⟨t.id,t.text,t.k,t.n,t.items++(dK k.y.n (cY k.y.ss) k.y.ss k.y.mt []).2.2,t.done,t.cancelled⟩):=by
    rw[<-h.dv,hid,List.map_set,K];simp[aU,G]
   show cJ c _ _ _ ((x.put (k.Pk i g ms' f).y).UL (x.told.set (k.y.id-1).toNat (let t:=x.told.getD (k.y.id-1).toNat default;⟨t.id,t.text,t.k,t.n,t.items++(dK k.y.n (cY k.y.ss) k.y.ss k.y.mt []).2.2,t.done,t.cancelled⟩)))
   rw[<-e];exact c3
  .show k.y.Pk _ _=_
   rw[K]
  .exact List.mem_map.2 ⟨k,l,by rw[aI U.symm]⟩
def zJ(c:aV)(x:cB)(y:ej):eG c x y=
 (if jM y.n (dK y.n (cY y.ss) y.ss y.mt []).1 (dK y.n (cY y.ss) y.ss y.mt []).2.1 then
  js c (((x.put (y.Pk (dK y.n (cY y.ss) y.ss y.mt []).1 (dK y.n (cY y.ss) y.ss y.mt []).2.1)).tell y.id λt=>⟨t.id,t.text,t.k,t.n,t.items++(dK y.n (cY y.ss) y.ss y.mt []).2.2,t.done,t.cancelled⟩).tell y.id λt=>⟨t.id,t.text,t.k,t.n,t.items,true,t.cancelled⟩) (y.Pk (dK y.n (cY y.ss) y.ss y.mt []).1 (dK y.n (cY y.ss) y.ss y.mt []).2.1)
 else((x.put (y.Pk (dK y.n (cY y.ss) y.ss y.mt []).1 (dK y.n (cY y.ss) y.ss y.mt []).2.1)).tell y.id λt=>⟨t.id,t.text,t.k,t.n,t.items++(dK y.n (cY y.ss) y.ss y.mt []).2.2,t.done,t.cancelled⟩,[])):=rfl
def xq.use{m:jG}{x:cB}{k:jd}{i:ae}(h:xq c m x k τ w i){j:Nat}(hj:j<m.ts.length)(hid:(k.y.id-1).toNat=j){tb a l:Nat}(hg:m.dg=some tb)(hv:m.dv=av (some ⟨tb,a,none⟩) m.ts.length l)
 (hs:0<=k.y.slot/\k.y.slot<=3) (hi:0<=k.y.id/\k.y.id<=1000000000) (h6:(aZ c).toNat<=6) (h5:1<=c.workers/\c.workers<=5) (D:Bool) (L:D=jM k.y.n (dK k.y.n (cY k.y.ss) k.y.ss k.y.mt []).1 (dK k.y.n (cY k.y.ss) k.y.ss k.y.mt []).2.1):
 i.cell? ⟨k.b,5,none⟩=k.p/\k.b<i.heap.size/\aj prog 114 #[k.p] i (λe w'=>e=ax (aw D)/\ai i i w')/\
  (D=false->∀y4,ai i i y4->pS c m.cb (eG c x k.y) τ w (ax ()) y4)/\
  (D=true->∀y4,ai i i y4->(∃b,y4.cell? ⟨tb,a+j*7+5,none⟩=some (aw b))/\y4.frozen? ⟨tb,a+j*7+5,none⟩=false/\tb<y4/\m.cb<y4.heap.size/\k.b<y4.heap.size/\
   aj prog 97 #[m.cb,k.b] (y4.setCell ⟨tb,a+j*7+5,none⟩ (aw true)) (pS c m.cb (eG c x k.y) τ w)):=by
 obtain⟨τ1,C,dg',g,K,o,M,kp,E,tl,rfl,N⟩:=h;have O:=K.q.r C E;have⟨_,_,_,_,_,q5,Q⟩:=O.cells';rw[M,kp]at q5;rw[M]at Q;have F:=JD O.mg;have T:C.ms.map dQ.s=(dK k.y.n (cY k.y.ss) k.y.ss k.y.mt []).1:=by rw[O.ss,o];rfl
 have U:C.y.mt=(dK k.y.n (cY k.y.ss) k.y.ss k.y.mt []).2.1:=by rw[o];rfl
 have hn:C.y.n=k.y.n:=by rw[o];rfl
 rw[T,U,hn,<-L,kp]at F;have V:=N.size;refine⟨q5,Q,F,λW y4 B=> ?_,λW y4 B=> ?_⟩
 .rw[zJ,<-L,W]
  have⟨G,X⟩:=K.same B .keep;rw[o]at G;exact⟨_,rfl,eH.nil _ _,_,_,G,rfl,N.trans X⟩
 .have⟨G,X⟩:=K.same B .keep
  have z:j<g.length:=by omega
  have H:m.dv=av (some ⟨tb,a,none⟩) g.length l:=by rw[tl];exact hv
  have⟨ts2,d1,d2⟩:=G.flag (k:=j) z hg H (j:=5) (by decide) (u:=aw true) (λt=>⟨t.id,t.text,t.k,t.n,t.items,true,t.cancelled⟩) rfl rfl k.y.id hid;have I:=Zu d1 (k:=C) E (by rw[o];exact hs) (by rw[o];exact hi) h6 h5;have J:=G.d.s;have A:Seg y4 68 7 (some tb) (av (some ⟨tb,a,none⟩) g.length l) (g.flatMap lN.cells) g.length:=by
   rw[<-hg,<-H];exact J
  have⟨b0,o0,cap0,s1,s2,s3,s4⟩:=A.cell (by decide) j z;simp only[bA,bG,dr,et,bK]at s1 s2;obtain⟨⟨rfl,rfl⟩,rfl⟩:=s2;have⟨t6,f6⟩:=s4 5 (aw (g[j]).t.done) (by decide) (by rw[eT (f:=lN.cells) (λ_=>rfl) _ _ _ z (by decide)];rfl);have e6:a+j*7+5=a+(j*7+5):=by omega
  rw[e6]at t6 f6⊢;refine⟨⟨_,t6⟩,f6,s3,bP K.bd B.size,bP Q B.size,?_⟩;rw[M]at I;refine Calls.mono I ?_;rintro e w' ⟨v,rfl,l1,Y,m2,p1,p2,p3⟩;rw[zJ,<-L,W];have Z:w.heap.size<=(y4.setCell ⟨tb,a+(j*7+5),none⟩ (aw true)).heap.size:=bD V (bD B.size (by simp));rw[o]at l1 p1;exact⟨v,rfl,l1.mono Z,Y,m2,p1,p2,((N.trans X).trans d2).trans p3⟩
def Pm{m:jG}{x:cB}(h:cJ c τ w m x){k:jd}(Z:k∈m.qs)(hs:0<=k.y.slot/\k.y.slot<=3)(hi:1<=k.y.id/\k.y.id<=x.told.length)(hl:(x.told.length:Int)<=1000000000)(h6:(aZ c).toNat<=6)(h5:1<=c.workers/\c.workers<=5)(hn:∀t∈x.told,t.items.length<=100000):
 aj prog 94 #[m.cb,k.b] w (pS c m.cb (eG c x k.y) τ w):=by
 have F:m.ts.length=x.told.length:=by rw[<-h.dv,cr]
 obtain⟨j,hj⟩:∃j:Nat,k.y.id-1=(j:Int):=⟨(k.y.id-1).toNat,by omega⟩
 have i:j<m.ts.length:=by omega
 have⟨tb,l,cap,e1,M,e3⟩:=h.d.row (by omega);have N:=hn _ (by rw[<-h.dv];exact List.mem_map.2 ⟨_,eA i,rfl⟩);have⟨q0,_,_,_,_,q5,q6⟩:=(h.q.r k Z).cells';have hc:=h.cells;have O:=hc.c18;rw[M,F]at O;have G:=h.d.s;have A:Seg w 68 7 (some tb) (av (some ⟨tb,l,none⟩) m.ts.length cap) (m.ts.flatMap lN.cells) m.ts.length:=by
  rw[<-e1,<-M];exact G
 have⟨b0,o0,cap0,s1,s2,s3,s4⟩:=A.cell (by decide) j i;simp only[bA,bG,dr,et,bK]at s1 s2;obtain⟨⟨rfl,rfl⟩,rfl⟩:=s2;have⟨t4,f4⟩:=s4 4 (m.ts[j]).iv (by decide) (by rw[eT (f:=lN.cells) (λ_=>rfl) _ _ _ i (by decide)];rfl);have⟨ia,aic,T,_⟩:=(h.d.r j i).len;have I:=au (show∀z,ai w w z->aj prog 113 #[k.p] z λe J=>∃v L u a n1 n2,e=ax v/\v=av a n1 n2/\J.heap[tb]? =w.heap[tb]? /\J.heap[k.b]? =w.heap[k.b]? /\(∀ty,(Builtin.append_ #[66,66] ty #[(m.ts[j]).iv,v]).run prog J=.ok L u)/\(∃a n e,L=av a n e)/\u.heap[tb]? =w.heap[tb]? /\xq c m x k τ w (u.setCell ⟨tb,l+(j*7+4),none⟩ L)fromλz C=>by
  have⟨z1,z2⟩:=h.same C .keep;refine(adQ (z1.q.r k Z).mg).mono ?_;rintro e J ⟨v,og,gt',tv',ms',told',out,rfl,ht,he⟩;have⟨r1,r2,L,u,r3,r4,U,τ3,k3,dg3,ts3,r6,r7,r8,r9,Xm,TX,r12,r13⟩:=xq.of z1 Z i (by omega) e1 M N ht he;have⟨a,n,hv,_⟩:=ht.o.len;exact⟨v,L,u,a,out.length,n,rfl,hv,r1.trans (C.block tb s3),r2.trans (C.block k.b q6),r3,r4,U.trans (C.block tb s3),τ3,k3,dg3,ts3,r6,r7,r8,r9,Xm,TX,r12,z2.trans r13⟩)
 have⟨D,hD⟩:=aD (jM k.y.n (dK k.y.n (cY k.y.ss) k.y.ss k.y.mt []).1 (dK k.y.n (cY k.y.ss) k.y.ss k.y.mt []).2.1);have H:=au (λy3 (hm:xq c m x k τ w y3)=>hm.use i (by omega) e1 M hs ⟨by omega,by omega⟩ h6 h5 D hD);have⟨GM,V⟩:=aD (xq c m x k τ w);rw[<-V]at I H;have HRV:=au (show∀e y,pS c m.cb (eG c x k.y) τ w e y->∃v,e=ax v fromλe y ⟨v,h1,_⟩=>⟨v,h1⟩);generalize pS c m.cb (eG c x k.y) τ w=Q at*;have z3:k.y.id=(j:Int)+1:=by omega
 rw[z3]at q0;rw[T]at t4 I;have z1':(0:Int)<=(j:Int):=by omega
 have z2':(j:Int)<(x.told.length:Int):=by omega
 generalize(m.ts[j]).t.items.length=il at*;generalize k.p=kp at*;generalize k.b=kb at*;generalize m.cb=cb at*;generalize x.told.length=tn at*;clear h Z hs hi h6 h5 hn hc G A s4 T hD V e1 M hj F N z3;go_in;have s9:IntKind.i64.wrap ((j:Int)+1-1)=(j:Int):=by rw[show(j:Int)+1-1=(j:Int)by omega];exact IntWalk.i64_in _ (by omega)
 go_upto_region 1 with fail
 go_quiet (fail);generalize hZ:World.drewN w _=z;have C:ai w w z:=by rw[<-hZ];exact(bo w _).aJ
 have y4:=(C.cell (p:=⟨tb,l+j*7+4,none⟩) s3).trans t4;have y5:=(C.cell (p:=⟨kb,5,none⟩) q6).trans q5;have⟨W,HF4,HTL⟩:=aX t4 f4 (I.o z.drew C.drew);clear hZ C t4 q5 f4 q0 O s9 z1' z2';go_upto_region 2 with fail
 go_region_law (first
  |(refine dm (by rfl) 113 func113 (by kernel_rfl) (by kernel_rfl) (by rfl) _ (by kernel_rfl) HTL.o ?_;rintro e J ⟨v,L,u,a,n1,n2,rfl,rfl,r1,r2,r3,⟨b1,b2,b3,rfl⟩,U,gm⟩;refine⟨_,rfl,?_⟩;have x4:=(cU r1).trans W.o;have x5:=(cU U).trans W.o;have xf:=(show u.frozen? ⟨tb,l+j*7+4,none⟩=w.frozen? ⟨tb,l+j*7+4,none⟩by simp only[World.frozen?,U]).trans HF4.o;have xl:tb<u:=iV u _ x5;have xl1:tb<J:=iV J _ x4;have X:=au r3;have HGM:=au (show GM (u.setCell ⟨tb,l+j*7+4,none⟩ (av b1 b2 b3))by rw[Nat.add_assoc];exact gm);clear r1 r2 r3 U gm)
  |(refine iU (by rfl) (.tmp 20) (.tmp 25) 66 (by rfl) _ _ _ u (by rfl) (by rfl) (X.o _) ?_)
  |fail)
 all_goals
  generalize hY:World.setCell u _ _=y3;have K:=HGM.o;rw[hY]at K;have⟨u5,ul,Y,g,B⟩:=H.o y3 K;have⟨HDN,HFA,HTR⟩:=aX Y g B;clear K Y g B hY;go_wp2_with fail
  refine HDN.m ?_;rintro e y4 ⟨rfl,E⟩;cases D
  .have HE:=au (HFA.o rfl y4 E)
   clear E;go_wp2;exact HE.o
  .have⟨⟨b5,v1⟩,v2,v3,v4,v5,v6⟩:=HTR.o rfl y4 E
   have HOV:=au v6;clear E v6;go_wp2_with fail
   refine HOV.m ?_;intro e y hr;obtain⟨v,rfl⟩:=HRV.o e y hr;have HE:=au hr;clear hr;go_wp2;exact HE.o
def UQ{m:jG}{x:cB}(h:cJ c τ w m x)(U:0<=x.now)(V:x.now<=1099511627776)(a life:Int):aj prog 246 #[m.cb,aG #[a,life]] w (pS c m.cb (pe c x a life) τ w):=by
 have⟨u,E⟩:=aD (w.alloc (aB #[a,life] 235 (0,0)));have⟨F,G,bl⟩:=dt E;have f:=G.aJ.drew;have⟨v,H⟩:=h.same f .keep;have b:=(h.same G.aJ .keep).1.cells;have I:=au (Z4 v.l.a a life x.now U V);have⟨r,A⟩:=aD (mK c.workers c.aS x.L a life x.now);have i:=au (show r.2.1≠0->∀y,dH y m.lp c.workers c.aS r.2.2->aQ [m.lp] u.drew y->pS c m.cb (pe c x a life) τ w (ax ()) y fromλJ y g d=>by
  have e:pe c x a life=(x.Nk r.2.2,[]):=by
   unfold pe;rw[<-A]
   show(x.Nk r.2.2,if r.2.1=0 then [(⟨a,.grant a life r.1⟩:fF)]else [])=_
   rw[aC J]
  rw[e];have⟨K,M⟩:=v.Nk g d .keep;exact⟨_,rfl,eH.nil _ _,_,m,K,rfl,H.trans M⟩)
 have j:=au (show r.2.1=0->∀y z,dH y m.lp c.workers c.aS r.2.2->aQ [m.lp] u.drew y->z=y.alloc (aB #[a,(cd.grant a life r.1).val ()] 187 (0,0))->pS c m.cb (pe c x a life) τ w (ax (av (some ⟨y,0,none⟩) 1 1)) z fromλB y z g d W=>by
  have e:pe c x a life=(x.Nk r.2.2,[⟨a,.grant a life r.1⟩]):=by
   unfold pe;rw[<-A]
   show(x.Nk r.2.2,if r.2.1=0 then [(⟨a,.grant a life r.1⟩:fF)]else [])=_
   rw[aI B]
  rw[e];have⟨K,M⟩:=v.Nk g d .keep;have N:ai y y z:=by rw[W];exact(aO _ _).alloc (aP _) _
  have⟨p3,p4⟩:=K.same N .keep;refine⟨_,rfl,eH.one (l:=⟨a,.grant a life r.1⟩) (iv:=av none 0 0) (by rw[W];exact a_ _ _) (bD f.size d.size) trivial ⟨_,_,_,rfl⟩,_,m,p3,rfl,(H.trans M).trans p4⟩)
 rw[<-A]at I;have n:=b.c14;have p:=b.c13;have pl:=b.lt;have⟨d0,d1⟩:=dk F;have q:w.heap.size≠m.lp:=λe=>by have:=az h.l.a.c;omega
 have X:=au (show∀y,aQ [m.lp] u.drew y->y.cell? w.heap.size=a/\y.cell? ⟨w,1,none⟩=life/\w.heap.size<y.heap.size fromλy C=>by
  have O:=C.at (k:=w.heap.size) F (by simpa using q);exact⟨aF O _ rfl,aF O _ rfl,az O⟩)
 have s:m.cb≠m.lp:=λe=>by
  have Y:=h.t;have t2:=h.l.t;rw[e]at Y;exact bL (Y.symm.trans t2) (by simp)
 have K0:=au (show u.drew.cell? ⟨m.cb,14,none⟩=m.lp/\u.drew.cell? ⟨m.cb,13,none⟩=x.now/\u.drew.cell? w.heap.size=a/\u.drew.cell? ⟨w,1,none⟩=life from⟨n,p,d0,d1⟩);have HK:=au (show∀y,aQ [m.lp] u.drew y->y.cell? ⟨m.cb,14,none⟩=m.lp/\y.cell? ⟨m.cb,13,none⟩=x.now/\y.cell? w.heap.size=a/\y.cell? ⟨w,1,none⟩=life fromλy C=>by
  have⟨Z,y1,_⟩:=X.o y C;have e:=C.block m.cb pl (by simpa using s);exact⟨(cU e).trans n,(cU e).trans p,Z,y1⟩)
 have HU:=au E;generalize pS c m.cb (pe c x a life) τ w=Q at*;obtain⟨r1,r2,r3⟩:=r;simp only at i j I;generalize m.lp=lp at*;generalize m.cb=cb at*;generalize x.now=now at*;clear h E G F f v H b A q U V s;go_in;go_upto_region 1 with fail
 rw[<-HU.o];go_region_held3 (λw'=>w'.cell? ⟨cb,14,none⟩=lp/\w'.cell? ⟨cb,13,none⟩=now/\w'.cell? w.heap.size=a/\w'.cell? ⟨w,1,none⟩=life) (first|(with_reducible exact K0.o)|(with_reducible exact K1.o)) (first
  |(go_at_call 251;refine I.m ?_;rintro e y ⟨rfl,g,d⟩;have K1:=au (HK.o y d);have KB:=au (X.o y d);have Q1:=au g;have Q2:=au d;clear g d))
 have⟨Z,y1,y2⟩:=KB.o;by_cases B:r2=0
 .have T:=au (j.o B y _ Q1.o Q2.o rfl)
  go_wp2;exact T.o
 .have T:=au (i.o B y Q1.o Q2.o)
  go_wp2;exact T.o
def jd.hs(k:jd)(s:Nat)(z:En):jd:=⟨setH k.y s z,k.b,k.p,k.gs,k.gt,k.sv,k.tv,k.ms⟩
variable{k:jd}
def cJ.hput{m:jG}{x:cB}(h:cJ c τ w m x)(d:k∈m.qs)(s:Nat)(z:En)(i:aQ [k.b] w w')(j:w'.heap[k.b]? =some (aB (k.hs s z).cells.toArray 184 (0,0))):
 cJ c τ w' (m.vC (pj m.qs (k.hs s z))) (x.put (setH k.y s z))/\Fr dB τ τ w w'/\k.hs s z∈pj m.qs (k.hs s z):=by
 have a:=h.q.r k d;have g:Fr (·=.FP k.y.id) τ τ w w':=Fr.fm i (by simpa using a.t);have f:ph τ w' (k.hs s z):=⟨j,a.mg.kept (g.kept a.mg.lt λx l=>by rw[a.tm x l];simp),a.ss,by show(k.y.sh.set s z).length=6;rw[ds];exact a.sh,a.tx,a.t,a.tm⟩;have⟨n,o⟩:=h.aa1 (k:=k.hs s z) d rfl rfl (g.mono λt e=>.inl e) f;exact⟨n,o,List.mem_map.2 ⟨k,d,aI rfl⟩⟩
def shF(h:En):List ah:=[an ar h.turn,an ar h.kU,an ar h.first,aw h.cZ]
def X9(l:List En)(s:Nat)(a:s<l.length):(X4 l)[s*4+0]? =some (an ar (l.getD s ()).turn)/\(X4 l)[s*4+1]? =some (an ar (l.getD s ()).kU)/\(X4 l)[s*4+2]? =some (an ar (l.getD s ()).first)/\(X4 l)[s*4+3]? =some (aw (l.getD s ()).cZ):=by
 have b:l.getD s ()=l[s]:=by simp[aU,a]
 rw[b];have e:X4 l=l.flatMap shF:=rfl;rw[e];refine⟨?_,?_,?_,?_⟩<;>rw[eT (f:=shF) (sz:=4) (λ_=>rfl) l s _ a (by decide)]<;>rfl
def ph.shc(h:ph τ w k){s:Nat}(e:s<6):w.cell? ⟨k.b,6+s*4,none⟩=some (an ar (k.y.sh.getD s ()).turn)/\w.cell? ⟨k.b,6+s*4+1,none⟩=some (an ar (k.y.sh.getD s ()).kU)/\
 w.cell? ⟨k.b,6+s*4+2,none⟩=some (an ar (k.y.sh.getD s ()).first)/\w.cell? ⟨k.b,6+s*4+3,none⟩=some (aw (k.y.sh.getD s ()).cZ)/\∀j,w.frozen? ⟨k.b,j,none⟩=false:=by
 have⟨f,g,i,l⟩:=X9 k.y.sh s (by rw[h.sh];exact e);have a:=h.c;have d:∀j,k.cells.toArray[6+j]? =(X4 k.y.sh)[j]? :=λj=>by
  rw[List.getElem?_toArray];unfold jd.cells;rw[g_ (by simp)];simp
 refine⟨?_,?_,?_,?_,λj=>bB a _⟩
 .simp only[World.cell?,a];rw[d];simpa using f
 .simp only[World.cell?,a];rw[Nat.add_assoc,d];exact g
 .simp only[World.cell?,a];rw[Nat.add_assoc,d];exact i
 .simp only[World.cell?,a];rw[Nat.add_assoc,d];exact l
def aa2{s:Nat}(a:s<k.y.sh.length)(z:En){j:Nat}(d:j<4){u:ah}(b: [Value.int .i64 z.turn,an ar z.kU,an ar z.first,aw z.cZ]=([Value.int .i64 (k.y.sh.getD s ()).turn,an ar (k.y.sh.getD s ()).kU,an ar (k.y.sh.getD s ()).first,aw (k.y.sh.getD s ()).cZ]:List ah).set j u):
 (k.hs s z).cells.toArray=k.cells.toArray.setIfInBounds (6+(s*4+j)) u:=by
 have g:k.y.sh.getD s ()=k.y.sh[s]:=by simp[aU,a]
 rw[g]at b;have e:=uu (f:=λh:En=> [Value.int .i64 h.turn,an ar h.kU,an ar h.first,aw h.cZ]) (λ_=>rfl) k.y.sh s j z u a d b;unfold jd.cells jd.hs setH;have i:X4 (k.y.sh.set s z)=(X4 k.y.sh).set (s*4+j) u:=e;simp only;rw[i,dF,List.set_append_right _ _ (by simp)];simp
def Pn(k:jd)(s:Nat)(z a:En):(k.hs s z).hs s a=k.hs s a:=by
 unfold jd.hs setH;simp
def pT{s:Nat}(a:s<k.y.sh.length)(z:En){j:Nat}(d:j<4){u:ah}(e:w.heap[k.b]? =some (aB k.cells.toArray 184 (0,0)))
 (f: [Value.int .i64 z.turn,an ar z.kU,an ar z.first,aw z.cZ]=([Value.int .i64 (k.y.sh.getD s ()).turn,an ar (k.y.sh.getD s ()).kU,an ar (k.y.sh.getD s ()).first,aw (k.y.sh.getD s ()).cZ]:List ah).set j u):
 (w.setCell ⟨k.b,6+s*4+j,none⟩ u).heap[k.b]? =some (aB (k.hs s z).cells.toArray 184 (0,0)):=by
 rw[aa2 a z d f,Nat.add_assoc];exact aE e u
def lP{l:List En}{s:Nat}(a:s<l.length)(z:En):(l.set s z).getD s ()=z:=by simp[aU,a]
def aa3{s:Nat}(d:s<k.y.sh.length)(z:En)(h:w.heap[k.b]? =some (aB k.cells.toArray 184 (0,0))):
 ((((w.setCell ⟨k.b,6+s*4,none⟩ z.turn).setCell ⟨k.b,6+s*4+1,none⟩ z.kU).setCell ⟨k.b,6+s*4+2,none⟩ z.first).setCell ⟨k.b,6+s*4+3,none⟩ (aw z.cZ)).heap[k.b]? =some (aB (k.hs s z).cells.toArray 184 (0,0)):=by
 have⟨a,i⟩:=aD (k.y.sh.getD s ());have l:=pT (w:=w) d ⟨z.turn,a.kU,a.first,a.cZ⟩ (j:=0) (u:=an ar z.turn) (by decide) h (by rw[<-i];rfl);have m:(k.hs s ⟨z.turn,a.kU,a.first,a.cZ⟩).y.sh.getD s ()=⟨z.turn,a.kU,a.first,a.cZ⟩:=lP d _;have n:s<(k.hs s ⟨z.turn,a.kU,a.first,a.cZ⟩).y.sh.length:=by show s<(k.y.sh.set s _).length;simpa using d
 have e:=pT (k:=k.hs s ⟨z.turn,a.kU,a.first,a.cZ⟩) n ⟨z.turn,z.kU,a.first,a.cZ⟩ (j:=1) (u:=an ar z.kU) (by decide) l (by rw[m];rfl);rw[Pn]at e;have o:(k.hs s ⟨z.turn,z.kU,a.first,a.cZ⟩).y.sh.getD s ()=⟨z.turn,z.kU,a.first,a.cZ⟩:=lP d _;have p:s<(k.hs s ⟨z.turn,z.kU,a.first,a.cZ⟩).y.sh.length:=by show s<(k.y.sh.set s _).length;simpa using d
 have f:=pT (k:=k.hs s ⟨z.turn,z.kU,a.first,a.cZ⟩) p ⟨z.turn,z.kU,z.first,a.cZ⟩ (j:=2) (u:=an ar z.first) (by decide) e (by rw[o];rfl);rw[Pn]at f;have q:(k.hs s ⟨z.turn,z.kU,z.first,a.cZ⟩).y.sh.getD s ()=⟨z.turn,z.kU,z.first,a.cZ⟩:=lP d _;have r:s<(k.hs s ⟨z.turn,z.kU,z.first,a.cZ⟩).y.sh.length:=by show s<(k.y.sh.set s _).length;simpa using d
 have g:=pT (k:=k.hs s ⟨z.turn,z.kU,z.first,a.cZ⟩) r z (j:=3) (u:=aw z.cZ) (by decide) f (by rw[q];rfl);rw[Pn]at g;exact g
def X_(a:List jd)(k:jd)(d:∀z∈a,z.y.id≠k.y.id):ur (a++ [k])=λi=>if i=k.y.id then some (aL (some k.b))else ur a i:=by
 funext i;unfold ur;rw[List.find?_append];by_cases e:i=k.y.id
 .subst e
  rw[aI rfl,List.find?_eq_none.2 (λz f=>by simpa using d z f)];simp
 .rw[aC e,show([k].find? λm=>m.y.id==i)=none by simp;omega]
  simp
def cJ.aju{m:jG}{x:cB}(h:cJ c τ w m x)(f:Fr (·=.FO) τ br w w')(o:ph br w' k)(j:∀z∈m.qs,z.y.id≠k.y.id)(v:je (aL none) w' m.qb (λi=>if i=k.y.id then some k.b else ur m.qs i) (m.qs.length+1)):
 cJ c br w' (m.vC (m.qs++ [k])) (x.vC (x.qs++ [k.y]))/\Fr dB τ br w w':=by
 refine⟨⟨f.at h.bx (by show¬τ m.cb=_;rw[h.t];simp),h.u.fr f (by simp),h.p.fr f (by simp),h.pc,h.l.fr f (by simp),h.s.fr f (by simp),h.i.fr f (by simp),⟨?_,λz g=> ?_,?_,(f.old _ h.q.m.lt).trans h.q.t⟩,?_,h.d.fr f (by simp) (by simp),h.dv,(f.old _ h.bd).trans h.t⟩,f.mono λt e=> ?_⟩
 .show je _ w' m.qb (ur (m.qs++ [k])) (m.qs++ [k]).length
  rw[X_ _ _ j,bF];exact v
 .obtain g|g:=List.mem_append.1 (show z∈m.qs++ [k]from g)
  .exact(h.q.r z g).fr f (by simp) (by simp)
  .rw[List.mem_singleton.1 g];exact o
 .show((m.qs++ [k]).map λm=>m.y.id).Nodup
  rw[gF,List.nodup_append];refine⟨h.q.nd,by simp,λa A b n=> ?_⟩;obtain⟨z,g,rfl⟩:=List.mem_map.1 A;simp only[gi,List.map_nil,cm]at n;rw[n];exact j z g
 .show(m.qs++ [k]).map jd.y=x.qs++ [k.y]
  rw[gF,h.qv];rfl
 .rw[e];exact .inr (.inr (.inr (.inr (.inl rfl))))
def Ev:(prog.info? 68).map (λi=>(i.zero,i.size,i.bytes))=some (some (aG #[an ar 0,aA ByteArray.empty,an ar 0,an ar 0,(),aw false,aw false]),7,72):=by kernel_rfl
def cJ.ajv{m:jG}{x:cB}(h:cJ c τ w m x)(t:bZ)(J:t.items=[])(K:m.ts.length<=1000000):
 ∃v' y,(∀L,(Builtin.append_ #[35,35] L #[m.dv,av (some ⟨w,0,none⟩) 1 1]).run prog (w.alloc (aB #[t.id,aA t.text,t.k,(t.n:Int),(),aw t.done,aw t.cancelled] 68 (0,0)))=.ok v' y)/\
  y.heap[m.cb]? =w.heap[m.cb]? /\Fr dB τ (eP τ w .told) w y/\(∃a n e,v'=av a n e)/\∃M,cJ c (eP τ w .told) (y.setCell ⟨m.cb,18,none⟩ v') (m.UL v' M (m.ts++ [⟨t,(),none⟩])) (x.UL (x.told++ [t])):=by
 have⟨v',y,B,N,G,O,Q⟩:=h.d.s.push 35 underlying35 Ev rfl (by decide) [an ar t.id,aA t.text,an ar t.k,an ar t.n,(),aw t.done,aw t.cancelled] rfl (by simp[Value.oneCell']) K (by decide);have z:Fr (·=.told) τ (eP τ w .told) w y:=Fr.dC O (λb j=>h.d.t b (by simpa using j)) _;have C:=(z.old _ h.bd).trans h.t;have H:Fr (·=.co) (eP τ w .told) (eP τ w .told) y (y.setCell ⟨m.cb,18,none⟩ v'):=Fr.fm ((aQ.refl [m.cb] y).setCell _ (by simp) _) (by simpa using C);have o:Fr (λt=>t=.told∨t=.co) τ (eP τ w .told) w (y.setCell ⟨m.cb,18,none⟩ v'):=(z.mono λt e=>.inl e).trans (H.mono λt e=>.inr e);have A:∀b,B=some b->eP τ w .told b=.told:=λb j=>by
  obtain e|⟨V,e,E⟩:=Q
  .have I:m.dg=some b:=by rw[<-e,j]
   rw[dZ (h.d.s.lt b I)];exact h.d.t b I
  .rw[e]at j
   simp only[bA]at j;subst j;exact d_ E
 have F:=z.at h.bx (by rw[h.t];simp);have⟨W,X,T,_⟩:=G.len;have v:∀i (f:i<(m.ts++ [(⟨t,(),none⟩:lN)]).length),(∃g:i<m.ts.length,(m.ts++ [(⟨t,(),none⟩:lN)])[i]=m.ts[i])∨(m.ts++ [(⟨t,(),none⟩:lN)])[i]=(⟨t,(),none⟩:lN):=λi f=>by
  by_cases e:i<m.ts.length
  .exact .inl ⟨e,List.getElem_append_left e⟩
  .right
   have:i=m.ts.length:=by simp at f;omega
   subst this;simp
 refine⟨v',y,N,z.block _ h.bd (by rw[h.t];simp),z.mono λt e=>.inr (.inr (.inr (.inr (.inr (.inr (.inr (.inl e))))))),⟨_,_,_,T⟩,B,?_⟩;refine⟨by simpa[jG.cells,jG.UL,cB.UL]using aE (i:=18) F v',h.u.fr o (by simp),h.p.fr o (by simp),h.pc,h.l.fr o (by simp),h.s.fr o (by simp),h.i.fr o (by simp),h.q.fr o (by simp) (by simp) (by simp),h.qv,⟨?_,λi f=> ?_,A,λi f=> ?_⟩,?_,(o.old _ h.bd).trans h.t⟩
 .have U:=(G.fr H A (by simp)).1
  show Seg _ _ 7 B v' ((m.ts++ [(⟨t,(),none⟩:lN)]).flatMap lN.cells) (m.ts++ [(⟨t,(),none⟩:lN)]).length
  rw[fQ,bF];exact U
 .obtain⟨g,e⟩|e:=v i f
  .show Seg _ _ 2 ((m.ts++ [(⟨t,(),none⟩:lN)])[i]'f).ig ((m.ts++ [(⟨t,(),none⟩:lN)])[i]'f).iv (dT ((m.ts++ [(⟨t,(),none⟩:lN)])[i]'f).t.items) ((m.ts++ [(⟨t,(),none⟩:lN)])[i]'f).t.items.length
   rw[e];exact((h.d.r i g).fr o (h.d.tr i g) (by simp)).1
  .show Seg _ _ 2 ((m.ts++ [(⟨t,(),none⟩:lN)])[i]'f).ig ((m.ts++ [(⟨t,(),none⟩:lN)])[i]'f).iv (dT ((m.ts++ [(⟨t,(),none⟩:lN)])[i]'f).t.items) ((m.ts++ [(⟨t,(),none⟩:lN)])[i]'f).t.items.length
   rw[e];simp only[J];exact Seg.nil _ _ _
 .obtain⟨g,e⟩|e:=v i f
  .show∀b,((m.ts++ [(⟨t,(),none⟩:lN)])[i]'f).ig=some b->eP τ w .told b=.item i
   rw[e];intro b j;exact(o.old b ((h.d.r i g).lt b j)).trans (h.d.tr i g b j)
  .show∀b,((m.ts++ [(⟨t,(),none⟩:lN)])[i]'f).ig=some b->eP τ w .told b=.item i
   rw[e];simp
 .show(m.ts++ [(⟨t,(),none⟩:lN)]).map lN.t=x.told++ [t]
  rw[gF,h.dv];rfl
def Po{b:Type}{l:List b}{a:b->Bool}{k:Nat}(e:k<l.length)(h:a (l[k])=true)(f:∀j (d:j<l.length),j<k->a (l[j])=false):kQ (l.map a)=k:=by
 have:(l.map a).findIdx? id=some k:=by
  refine List.findIdx?_eq_some_iff_getElem.2 ⟨by simpa using e,?_,λj d=> ?_⟩
  .rw[List.getElem_map]
   exact h
  .rw[List.getElem_map]
   simpa using f j (by omega) d
 unfold kQ;rw[this]
def Pp{b:Type}{l:List b}{a:b->Bool}(d:∀j (k:j<l.length),a (l[j])=false):kQ (l.map a)= -1:=by
 have:(l.map a).findIdx? id=none:=by
  rw[List.findIdx?_eq_none_iff];intro y e;obtain⟨m,f,rfl⟩:=List.mem_map.1 e;obtain⟨i,h,rfl⟩:=lG f;simpa using d i h
 unfold kQ;rw[this]
def UR{d:Type}(l:List d)(a:d->Bool):decide (0<=kQ (l.map a))=l.any a:=by
 unfold kQ;cases h:(l.map a).findIdx? id with
 |none=>
  rw[List.findIdx?_eq_none_iff]at h;have:l.any a=false:=by
   rw[List.any_eq_false];intro m e;have:=h (a m) (List.mem_map.2 ⟨m,e,rfl⟩);simpa using this
  rw[this];rfl
 |some i=>
  have⟨f,j,_⟩:=List.findIdx?_eq_some_iff_getElem.1 h;have:l.any a=true:=by
   rw[Fm];have b:i<l.length:=by simpa using f
   exact⟨l[i],eA b,by simpa using j⟩
  rw[this];simp
def Ya{m:jG}{x:cB}(h:cJ c τ w m x){xb:Nat}(d:w.heap[xb]? =some (aB #[m.cb] 60 (0,0)))(i:Int):
 aj prog 258 #[(i:Int),xb] w λe w'=>e=ax (aw (qo c.workers x.L i x.now))/\ai w w w':=by
 have f:=au (show∀z,ai w w z->_ fromλz j=>adh (h.fu j).l.a i x.now);have b:=h.cells;have k:=b.c13;have n:=b.c14;have p:=aF d 0 rfl;generalize m.cb=cb at*;generalize m.lp=lp at*;generalize x.now=now at*;clear h b d;go_in;go_wp2_with fail
 go_quiet (first|(exact de (f.o _ (bo _ _).aJ)));go_wp2;go_ret;exact⟨rfl,(bo w _).aJ⟩
variable{g:Option Nat}
def US{v:ah}{xs:List Int}{xb:Nat}(l:Int->Bool)(h:Seg w 3 1 g v (xs.flatMap dX) xs.length)(hn:xs.length<=1000)
 (M:∀y i,ai w w y->aj prog 258 #[an ar i,xb] y λe w'=>e=ax (aw (l i))/\ai y y w'):
 aj prog 257 #[v,.func (Fn.func 258) #[] #[xb]] w λe w'=>e=ax (kQ (xs.map l):Int)/\ai w w w':=by
 obtain⟨a,U,rfl,N,V⟩:=h.len;unfold maxLen at V;have⟨H,E⟩:=aK h M;have⟨z,n⟩:=aD (kQ (xs.map l));have⟨W,X⟩:=aK (show∀k (F:k<xs.length),l (xs[k])=true->(∀j (p:j<xs.length),j<k->l (xs[j])=false)->z=k fromλk F Y G=>by rw[n];exact Po F Y G) (show(∀j (p:j<xs.length),l (xs[j])=false)->z= -1 fromλG=>by rw[n];exact Pp G);rw[<-n];clear h M n;go_in;go_wp2_with fail
 go_loopw [8] (λi wr=>∃k:Nat,i=an ar k/\k<=xs.length/\(∀j (p:j<xs.length),j<k->l (xs[j])=false)/\ai w w wr) (λi _=>xs.length-(intOf i).toNat)
 case atStart=>exact⟨0,rfl,bz _,λj _ p=>by omega,aO _ _⟩
 case round=>
  obtain⟨k,rfl,F,I,t⟩:=hrel;have⟨J,u⟩:=aK I t;by_cases q:k<xs.length
  .have⟨b,Z,cp,_,O,hl,Q⟩:=(H.o.bH (ch t) (by simp)).cell (by decide) k q
   simp only[bG,bK]at O;obtain⟨rfl,rfl⟩:=O;have⟨y,K⟩:=aD (xs[k]);have a0:=(Q 0 (an ar y) (by decide) (by rw[eT (f:=dX) (λ_=>rfl) _ _ _ q (by decide),K];rfl)).1;simp only[bM,Nat.mul_one]at a0;have q1:(0:Int)<=(k:Int):=by omega
   have q2:(k:Int)<(xs.length:Int):=by omega
   have r:=E.o wr y t;have x:∀A,l y=A->l (xs[k])=A:=λA e=>by rw[<-K];exact e
   have B:=au x;have⟨A,s⟩:=aD (l y);rw[<-s]at r;have⟨C,T⟩:=aK s r;clear Q I t K x s r;cases A
   .go_wp2_with fail
    refine T.m ?_;rintro e y2 ⟨rfl,d⟩;have L:=au (u.o.trans (d.mono u.o.size));clear d;go_wp2_with fail
    go_roundw
    case rel=>
     refine⟨k+1,by simp,by omega,λj p hjk=> ?_,L.o⟩;by_cases e:j=k
     .subst e;exact B.o _ C.o.symm
     .exact J.o j p (by omega)
    case measure=>simp[intOf];omega
   .have n:=W.o k q (B.o _ C.o.symm) J.o
    subst n;go_wp2_with fail
    refine T.m ?_;rintro e y2 ⟨rfl,d⟩;have L:=au (u.o.trans (d.mono u.o.size));clear d;go_wp2;go_ret;exact⟨rfl,L.o⟩
  .obtain rfl:k=xs.length:=by omega
   have n:=X.o λj p=>J.o j p p
   subst n;clear I t;go_wp2;go_ret;exact⟨rfl,u.o⟩
def aa4{m:jG}{x:cB}(h:cJ c τ w m x){k:jd}(i:k∈m.qs){yb:Nat}(j:w.heap[yb]? =some (aB #[k.b] 179 (0,0)))(d:Int)(s:ByteArray):
 aj prog 253 #[aG #[(d:Int),aA s],yb] w λe w'=>e=ax (aw (decide (k.y.k<d)))/\ai w w w':=by
 have⟨u,f⟩:=aD (w.alloc (aB #[(d:Int),aA s] 83 (0,0)));have⟨l,a,t⟩:=dt f;have⟨_,_,_,v,_,_,z⟩:=((h.fu a.aJ).q.r k i).cells';have A:u.cell? yb=k.b:=by
  have:=(ch a.aJ).at j (by simp);simp[World.cell?,this]
 have B:=aF l 0 rfl;have⟨p,n⟩:=aK f a.aJ;generalize k.b=kb at*;generalize k.y.k=kk at*;clear h i j a l f;go_in;go_upto_region 1 with fail
 rw[<-p.o];go_quiet (fail);go_wp2;go_ret;exact⟨rfl,n.o.trans ((bo u _).aJ.mono n.o.size)⟩
def Yb{v:ah}{xs:List aY}{yb:Nat}(n:aY->Bool)(h:Seg w 83 2 g v (dT xs) xs.length)(hn:xs.length<=1000)
 (Q:∀y d s,ai w w y->aj prog 253 #[aG #[an ar d,aA s],yb] y λe w'=>e=ax (aw (n (d,s)))/\ai y y w'):
 aj prog 266 #[v,.func (Fn.func 253) #[] #[yb]] w λe w'=>e=ax (kQ (xs.map n):Int)/\ai w w w':=by
 obtain⟨a,X,rfl,T,Y⟩:=h.len;unfold maxLen at Y;have⟨H,I⟩:=aK h Q;have⟨z,q⟩:=aD (kQ (xs.map n));have⟨Z,HE⟩:=aK (show∀k (J:k<xs.length),n (xs[k])=true->(∀j (r:j<xs.length),j<k->n (xs[j])=false)->z=k fromλk J h1 K=>by rw[q];exact Po J h1 K) (show(∀j (r:j<xs.length),n (xs[j])=false)->z= -1 fromλK=>by rw[q];exact Pp K);rw[<-q];clear h Q q;go_in;go_wp2_with fail
 go_loopw [8] (λi wr=>∃k:Nat,i=an ar k/\k<=xs.length/\(∀j (r:j<xs.length),j<k->n (xs[j])=false)/\ai w w wr) (λi _=>xs.length-(intOf i).toNat)
 case atStart=>exact⟨0,rfl,bz _,λj _ r=>by omega,aO _ _⟩
 case round=>
  obtain⟨k,rfl,J,L,x⟩:=hrel;have⟨M,A⟩:=aK L x;by_cases p:k<xs.length
  .have⟨b,off,cp,_,U,hl,N⟩:=(H.o.bH (ch x) (by simp)).cell (by decide) k p
   simp only[bG,bK]at U;obtain⟨rfl,rfl⟩:=U;have⟨y,G⟩:=aD (xs[k]);have V:=(N 0 (y.1:Int) (by decide) (by rw[dT,eT (f:=rK) (λ_=>rfl) _ _ _ p (by decide),G];rfl)).1;have a1:=(N 1 (aA y.2) (by decide) (by rw[dT,eT (f:=rK) (λ_=>rfl) _ _ _ p (by decide),G];rfl)).1;simp only[bM]at V;have q1:(0:Int)<=(k:Int):=by omega
   have q2:(k:Int)<(xs.length:Int):=by omega
   obtain⟨d,s⟩:=y;simp only at V a1;have t:=I.o wr d s x;have B:∀C,n (d,s)=C->n (xs[k])=C:=λC e=>by rw[<-G];exact e
   have E:=au B;have⟨C,u⟩:=aD (n (d,s));rw[<-u]at t;have⟨F,W⟩:=aK u t;clear N L x G B u t;cases C
   .go_wp2_with fail
    refine W.m ?_;rintro e y2 ⟨rfl,l⟩;have O:=au (A.o.trans (l.mono A.o.size));clear l;go_wp2_with fail
    go_roundw
    case rel=>
     refine⟨k+1,by simp,by omega,λj r hjk=> ?_,O.o⟩;by_cases e:j=k
     .subst e;exact E.o _ F.o.symm
     .exact M.o j r (by omega)
    case measure=>simp[intOf];omega
   .have q:=Z.o k p (E.o _ F.o.symm) M.o
    subst q;go_wp2_with fail
    refine W.m ?_;rintro e y2 ⟨rfl,l⟩;have O:=au (A.o.trans (l.mono A.o.size));clear l;go_wp2;go_ret;exact⟨rfl,O.o⟩
  .obtain rfl:k=xs.length:=by omega
   have q:=HE.o λj r=>M.o j r r
   subst q;clear L x;go_wp2;go_ret;exact⟨rfl,A.o⟩
def ajw{v:ah}{xs:List aY}{yb:Nat}(b:aY->Bool)(h:Seg w 83 2 g v (dT xs) xs.length)(k:xs.length<=1000)
 (i:∀y d s,ai w w y->aj prog 253 #[aG #[an ar d,aA s],yb] y λe w'=>e=ax (aw (b (d,s)))/\ai y y w'):
 aj prog 252 #[v,.func (Fn.func 253) #[] #[yb]] w λe w'=>e=ax (aw (xs.any b))/\ai w w w':=by
 have⟨l,n⟩:=aK (Yb b h k i) (UR xs b);obtain⟨a,p,rfl,f,t⟩:=h.len;generalize xs.any b=r at*;generalize kQ (xs.map b)=z at*;clear h i f;go_in;go_wp2_with fail
 refine l.m ?_;rintro e y ⟨rfl,j⟩;have q:=au j;clear j;go_wp2;go_ret;exact⟨by rw[<-n.o];rfl,q.o⟩
def ej.pss(y:ej)(ss:List jv):ej:=⟨y.id,y.slot,y.text,y.k,y.n,ss,y.mt,y.sh⟩
def ph.ajx{k:jd}(h:ph τ w k){j:Nat}(u:j<k.ms.length){a:List aY}{d:Bool}(x:pN w k.p k.y.n k.gs k.gt k.sv k.tv k.ms k.y.mt j a d w'):
 ∃l,ph (eP τ w (.mg k.y.id)) w' l/\l.b=k.b/\l.y=k.y.pss (k.y.ss.set j ((k.y.ss.getD j ()).put a d))/\Fr (λt=>t=.FP k.y.id∨t=.mg k.y.id) τ (eP τ w (.mg k.y.id)) w w':=by
 obtain⟨v,g,A,B,C⟩:=x;have f:Fr (·=.mg k.y.id) τ (eP τ w (.mg k.y.id)) w w':=Fr.dC B (λq i=>h.tm q (by simp only[eh,bQ,dJ];exact .inr (.inl (.inl i)))) _;have m:(k.ms.set j ((k.ms.getD j ()).put a d v g)).map dQ.s=k.y.ss.set j ((k.y.ss.getD j ()).put a d):=by
  rw[<-h.ss,List.map_set];congr 1;simp[aU,u,dQ.put]
 refine⟨⟨k.y.pss (k.y.ss.set j ((k.y.ss.getD j ()).put a d)),k.b,k.p,k.gs,k.gt,k.sv,k.tv,k.ms.set j ((k.ms.getD j ()).put a d v g)⟩,⟨f.at h.c (by rw[h.t];simp),A,m,h.sh,h.tx,(f.old _ (az h.c)).trans h.t,λq i=> ?_⟩,rfl,rfl,f.mono λt e=>.inr e⟩;have o:q∈eh k.p k.gs k.gt k.ms∨w.heap.size<=q:=by
  simp only[eh,bQ,dJ,mF]at i⊢;obtain e|e|⟨z,E,e⟩:=i
  .exact .inl (.inl e)
  .exact .inl (.inr (.inl e))
  .obtain r|r:=jC E
   .exact .inl (.inr (.inr ⟨z,r,e⟩))
   .subst r
    exact .inr (C q e)
 obtain e|e:=o
 .exact f.tags h.mg.lt h.tm q e
 .exact d_ e
def Q6(b:List ej){y z:ej}(h:z.id=y.id):nO (nO b z) y=nO b y:=by
 unfold nO;rw[fT];refine jh λa _=> ?_
 simp only[Function.comp_apply];by_cases e:a.id=z.id
 .rw[aI e,aI h,aI (e.trans h)]
 .rw[aC e]
def Pq(x:cB){y z:ej}(h:z.id=y.id):(x.put z).put y=x.put y:=by
 unfold cB.put;simp only;rw[Q6 _ h]
def UT(c:aV)(x:cB){y z:ej}(h:z.id=y.id):eG c (x.put z) y=eG c x y:=by
 rw[zJ,zJ];have e:(x.put z).put (y.Pk (dK y.n (cY y.ss) y.ss y.mt []).1 (dK y.n (cY y.ss) y.ss y.mt []).2.1)=x.put (y.Pk (dK y.n (cY y.ss) y.ss y.mt []).1 (dK y.n (cY y.ss) y.ss y.mt []).2.1):=Pq x h;rw[e]
def afc(n:Int)(ss:List jv)(told:List aY)(i seq:Int)(items:List aY)(fin:Bool)(w:ae)(R:Nat->ae->Prop)(e:ak)(w':ae):Prop:=
 (qt n ss told i seq items fin=none/\e=ax (aw false)/\ai w w w')∨
 ∃k,k<ss.length/\qt n ss told i seq items fin=some (ss.set k ((ss.getD k ()).put items fin))/\e=ax (aw true)/\R k w'
def afd{p:Nat}{n:Int}{o q:Option Nat}{r t:ah}{ms:List dQ}{told:List aY}(h:ir w p n o q r t ms told)(i f:Int){y:Option Nat}{iv:ah}{b:List aY}(u:Seg w 83 2 y iv (dT b) b.length)(z:b.length<=1000)(d:Bool):
 aj prog 255 #[p,i,f,iv,aw d] w (afc n (ms.map dQ.s) told i f b d w λk w'=>pN w p n o q r t ms told k b d w'):=by
 have⟨a,g,A,_⟩:=u.len;cases hok:w_ n (ms.map dQ.s) told i f b.length d with
 |none=>
  rw[A];refine(aax h i f a b.length g d z hok).mono ?_;rintro e w' ⟨rfl,j⟩;exact .inl ⟨by unfold qt;rw[hok],rfl,j⟩
 |some k=>
  have⟨_,v,_⟩:=AI hok;have x:((ms.map dQ.s).getD k ())=(ms.getD k ()).s:=by
   have l:k<ms.length:=by simpa using v
   simp[aU,l]
  refine(Xw h i f u d hok).mono ?_;rintro e w' (⟨m,rfl,j⟩|⟨m,rfl,B⟩)
  .exact .inl ⟨by unfold qt;rw[hok];simp only;rw[x,m];rfl,rfl,j⟩
  .exact .inr ⟨k,by simpa using v,by unfold qt;rw[hok];simp only;rw[x,m];rfl,rfl,B⟩
def aa5{a:List fI}(h:oj a=0):∀k∈a,Sy k=true:=by
 unfold oj at h;split at h
 .omega
 .split at h
  .omega
  .rename_i b
   rw[Bool.not_eq_false,pC]at b;exact b
def UU{m:jG}{x:cB}(h:cJ c τ w m x)(z:fX c=true){s:Nat}(i:s<(aZ c).toNat)(text:ByteArray)(k n:Int)(G:text.size<=1000):
 aj prog 92 #[m.cb,an ar s,aG #[aA text,k,n]] w λe w'=>e=ax (rj c s text k:Int)/\ai w w w':=by
 have⟨u,j⟩:=aD (w.alloc (aB #[aA text,k,n] 31 (0,0)));have⟨A,l,O⟩:=dt j;have a:=aV.bounds z;have p:s<=c.cuts.length:=by unfold aZ at i;split at i<;>omega
 have q:=ZN text.data.toList;have r:text.data.toList.length=text.size:=Array.length_toList;have t:=au (show∀y,aj prog 77 #[aA text] y λe w'=>e=ax (iX text.data.toList:Int)/\ai y y w' fromλy=>SV text y (by unfold maxLen;omega));have g:=(h.fu l.aJ);have d:=au (show∀y,ai u u y->aj prog 112 #[m.uv,(s:Int),an ar (iX text.data.toList)] y λe w'=>e=ax (uY c.cuts s (iX text.data.toList):Int)/\ai y y w' fromλy H=>
  (aaa m.uv c.cuts s _ y (aT.gP ((g.fu H).u.s) (λ_=>rfl) (by decide)) (by have:=a.cu;omega) p (aa5 a.gk) (by omega) (by omega)).mono λe w' ⟨I,J⟩=>⟨I,by rw[<-J];exact aO _ _⟩)
 have b:=g.bx;have K:=aF b 1 rfl;have Q:=az b;have⟨T,U,f,_⟩:=g.u.s.len;have⟨V,W⟩:=dk A;have⟨M,B⟩:=aK j l.aJ;unfold rj;rw[f]at K d;generalize uY c.cuts s (iX text.data.toList)=L at*;generalize iX text.data.toList=lv at*;generalize m.cb=cb at*;obtain⟨R,v⟩:∃R,R=if k<L then-1 else L:=⟨_,rfl⟩
 rw[<-v];have C:=au v;clear h g b l A j a q r G i z f v;go_in;go_upto_region 1 with fail
 rw[<-M.o];refine cD (by kernel_rfl) (by kernel_rfl) ?_
 repeat (go_big_quiet_step (first|(go_at_call 77;exact cH (t.o _))|(go_at_call 112;exact cH (d.o _ (bX _ _)))|fail))
 refine eV ?_;rintro _ ⟨N,rfl⟩;have E:=au (B.o.trans ((bX u N).mono B.o.size));by_cases F:k<L
 .obtain rfl:R= -1:=by rw[C.o,aI F]
  go_wp2;go_ret;exact⟨rfl,E.o⟩
 .obtain rfl:R=L:=by rw[C.o,aC F]
  go_wp2;go_ret;exact⟨rfl,E.o⟩
def A5(b:fX c=true){s:Nat}(d:s<(aZ c).toNat):(bR c s).length=c.copies.toNat/\1<=c.copies/\c.copies<=3:=by
 have a:=aV.bounds b;refine⟨?_,a.c1,a.c2⟩;unfold bR;rw[aI (by rw[kA];omega)];simp
def cJ.cop{m:jG}{x:cB}(h:cJ c τ w m x){s:Nat}(A:s<(aZ c).toNat):∃o d i g a j,m.pv=av (some ⟨o,d,none⟩) (aZ c).toNat i/\w.cell? ⟨o,d+s,none⟩=some (av a (bR c s).length j)/\o<w.heap.size/\
 Seg w 3 1 g (av a (bR c s).length j) ((bR c s).flatMap dX) (bR c s).length/\∀b,g=some b->τ b=.keep:=by
 have u:=h.copies;have k:s<m.cs.length:=by omega
 have⟨q,n⟩:=aD (m.cs[s]);have y:q.xs=bR c s:=by
  have e:(m.cs.map Et.xs)[s]? =((List.range (aZ c).toNat).map λs:Nat=>bR c (s:Int))[s]? :=by rw[h.pc]
  simpa[k,A,<-n]using e
 have l:=n▸eA k;have t:=h.p.r q l;rw[y]at t;have⟨a,j,B,_⟩:=t.len;have⟨o,d,i,F,z,C,E⟩:=h.p.s.cell (by decide) s k;have:=(E 0 q.v (by decide) (by rw[eT (f:=Et.cells) (λ_=>rfl) _ _ _ k (by decide),<-n];rfl)).1;rw[B]at t this;simp only[Nat.mul_one,bM]at this;rw[u]at z;exact⟨o,d,i,q.g,a,j,z,this,C,t,h.p.tr q l⟩
def aa6{m:jG}{x:cB}(h:cJ c τ w m x){k:jd}(G:k∈m.qs)(hm:fX c=true){s:Nat}(hs:s<(aZ c).toNat)(i:Int)(t0:0<=i)(t1:i<=1000000000000)(V:k.y.text.size<=maxLen)(n:(jl k.y.ss s).1.2.size<=maxLen):
 aj prog 261 #[m.cb,k.b,(s:Int),(i:Int)] w λe w'=>∃v,e=ax v/\eH w w' v (kD c x k.y s i)/\ai w w w':=by
 have⟨hl,c1,c3⟩:=A5 hm hs;have⟨pb,UW,UO,g,a,cap,I,hcv,pbl,hr,_⟩:=h.cop hs;have hL:(bR c s).length≠0:=by omega
 obtain⟨j,hj⟩:∃j:Nat,(j:Int)=i%((bR c s).length:Int):=⟨(i%((bR c s).length:Int)).toNat,by have:=Int.emod_nonneg i (b:=((bR c s).length:Int)) (by omega);omega⟩
 have t:j<(bR c s).length:=by have:=Int.emod_lt_of_pos i (b:=((bR c s).length:Int)) (by omega);omega
 have⟨b,off,cp,_,he,hbl,J⟩:=hr.cell (by decide) j t;simp only[bG,bK]at he;obtain⟨rfl,rfl⟩:=he;have⟨W,X⟩:=aD ((bR c s)[j]);have a0:=(J 0 W (by decide) (by rw[eT (f:=dX) (λ_=>rfl) _ _ _ t (by decide),X];rfl)).1;simp only[bM,Nat.mul_one]at a0;have B:(bR c s).getD (i%((bR c s).length:Int)).toNat 0=W:=by
  rw[<-hj,X];simp[aU,t]
 rw[show j=(i%((bR c s).length:Int)).toNat by omega]at a0;have⟨E,N⟩:=aD (mJ c.workers x.L W);have HE:=au (Tv h.l.a W);rw[<-N]at HE;have K:=au (Xo (h.q.r k G).mg s);rw[(h.q.r k G).ss]at K;have O:=au (show∀y,ai w w y->aj prog 269 #[k.p,(s:Int)] y λe w'=>e=ax (TZ k.y.ss s:Int)/\y=w' fromλy H=>by
  have:=adY ((h.fu H).q.r k G).mg s;rw[((h.fu H).q.r k G).ss]at this;exact this)
 have hjm:Int.tmod i ((bR c s).length:Int)=(j:Int):=by rw[Int.tmod_eq_emod_of_nonneg t0,hj]
 have z3:(0:Int)<=(j:Int):=by omega
 have z4:(j:Int)<((bR c s).length:Int):=by omega
 have Q:=au V;have Y:=h.cells;have T:=Y.c12;have c14:=Y.c14;rw[I]at T;have⟨_,_,_,_,_,q5,q6⟩:=(h.q.r k G).cells';by_cases C:E=0
 .have HQ:=au (show kD c x k.y s i=[]by unfold kD;simp only[B,<-N];rw[aI C])
  generalize kD c x k.y s i=R at*;subst C;clear X J hr hl;clear t;generalize(bR c s).length=L at*;generalize m.cb=cb at*;generalize m.lp=lp at*;generalize k.b=kb at*;clear h N Y B I G V n hm c1 c3;go_in;go_wp2_with fail
  refine aH HE.o ?_;go_wp2;go_ret;exact⟨_,rfl,by rw[HQ.o];exact eH.nil _ _,aO _ _⟩
 .have⟨A,hA⟩:=aD (jl k.y.ss s)
  rw[<-hA]at K n;have⟨S,hS⟩:=aD (TZ k.y.ss s);rw[<-hS]at O;have HQ:=au (show kD c x k.y s i=[⟨W,.ask ⟨k.y.slot,k.y.id,s,S,E,k.y.text,k.y.k,c.batch,!A.2,A.1.1,A.1.2⟩⟩]by unfold kD;simp only[B,<-N,<-hA,<-hS];rw[aC C]);have HC:=au (show∀y,ai w w y->F6 c y m x.now/\y.cell? k.b=k.y.id/\y.cell? ⟨k.b,1,none⟩=k.y.slot/\y.cell? ⟨k.b,2,none⟩=some (aA k.y.text)/\y.cell? ⟨k.b,3,none⟩=k.y.k/\y.cell? ⟨k.b,5,none⟩=k.p/\k.b<y.heap.size fromλy H=>by
   have h1:=h.fu H;have⟨p0,p1,p2,p3,_,p5,p6⟩:=(h1.q.r k G).cells';exact⟨h1.cells,p0,p1,p2,p3,p5,p6⟩)
  have ne:(E==0)=false:=by simpa using C
  generalize kD c x k.y s i=R at*;clear X J hr hl;clear t;generalize(bR c s).length=L at*;generalize U:m.cb=cb at*;generalize m.lp=lp at*;generalize k.b=kb at*;generalize k.p=kp at*;generalize k.y.id=id at*;generalize k.y.slot=slot at*;generalize k.y.text=text at*;generalize k.y.k=kk at*;have HCB:=au U;obtain⟨⟨d,Z⟩,hd⟩:=A;simp only at n;have Q:=au (show text.size<=maxLen/\Z.size<=maxLen from⟨V,n⟩);clear h N Y B I G V n hm c1 c3 U hA hS;go_in;go_wp2_with fail
  refine aH HE.o ?_;go_wp2_with fail
  refine K.m ?_;rintro e y ⟨rfl,H⟩;have⟨u,hu⟩:=aD (y.alloc (aB #[d,aA Z] 83 (0,0)));have⟨b1,bg,bl⟩:=dt hu;have F:=H.trans (bg.aJ.mono H.size);have⟨kc,p0,p1,p2,p3,p5,p6⟩:=HC.o u F;have e5:=kc.c5;have elt:=kc.lt;rw[HCB.o]at e5 elt;have⟨d0,d1⟩:=dk b1;have⟨HU,M,HS2⟩:=aX hu F ((O.o u.drew F.drew).mono λe w' (h:_/\_)=>(⟨h.1,h.2.symm⟩:_/\w'=u.drew));clear H bg b1 hu F kc q5 q6 T c14 a0 hcv;go_upto_region 7 with fail
  rw[<-HU.o];refine wp_region_still_tail 38 (by kernel_rfl) (by kernel_rfl) ?_;simp only[List.take_succ_cons,List.take_zero,List.drop_succ_cons,List.drop_zero]
  repeat (first|still_step|still_call HS2.o)
  refine wpStill_nil ?_;have⟨z,hz⟩:=aD (u.drew.alloc (aB #[an ar W,(cd.ask ⟨slot,id,s,S,E,text,kk,c.batch,!hd,d,Z⟩).val ()] 187 (0,0)));have HF:=au (show∃v,Ending.returned (av (some ⟨u.drew,0,none⟩) 1 1)=ax v/\eH w z v R/\ai w w z by
   have hwz:ai w w z:=by rw[hz];exact M.o.drew.alloc M.o.drew.size _
   refine⟨_,rfl,?_,hwz⟩;rw[HQ.o];exact eH.one (l:=⟨W,.ask ⟨slot,id,s,S,E,text,kk,c.batch,!hd,d,Z⟩⟩) (iv:=av none 0 0) (by rw[hz];exact a_ _ _) M.o.drew.size Q.o ⟨_,_,_,rfl⟩)
  have HZ:=au hz;clear hz;go_wp2;go_ret;rw[HZ.o]at HF;exact HF.o
def UX:(prog.info? 116).map (λi=>(i.zero,i.size,i.bytes))=some (some (aG #[an ar 0,aA ByteArray.empty]),2,24):=by kernel_rfl
def aa7{n m:Nat}{a:Addr}{d:List fI}(h:aT fI.cells 2 w (av (some a) n m) d)(M:d.length<=1000):
 ∃s t w',(∀N,(Builtin.append_ #[23,23] N #[av (some ⟨w,0,none⟩) 0 0,av (some a) n m]).run prog (w.alloc (aB #[] 116 (0,0)))=.ok (av s n t) w')/\Own w 116 2 w' (av s n t) (d.flatMap fI.cells) n/\ai w w w'/\n=d.length:=by
 have⟨O,Q,y,z,A⟩:=info_parts UX;have⟨a0,F,G,T,U,o⟩:=id h;simp only[bG]at G;obtain⟨rfl,rfl,rfl⟩:=G;have v:aQ ([]:List Nat) w (w.alloc (aB #[] 116 (0,0))):=(aQ.refl _ _).alloc _;have q:(d.flatMap fI.cells).length=d.length*2:=by
  clear h o T U M
  induction d with
  |nil=>rfl
  |cons x l V=>rw[eI,bF,V,cG];simp[fI.cells];omega
 have g:=World.ownsRow_lit (base:=w.heap.size) (size:=2) (e:=116) w #[] 0 (aP _) (by decide) rfl;have k:∀j u,(d.flatMap fI.cells)[j]? =some u->(w.alloc (aB #[] 116 (0,0))).cell? (a.add j)=some u:=λj u r=>by
  have hj:j<d.length*2:=by rw[<-q];exact(List.getElem?_eq_some_iff.1 r).1
  have⟨b,i,H,B,W⟩:=o (j/2) (by omega);simp only[bA]at H;subst H;have I:j/2<d.length:=by omega
  have C:((d.getD (j/2) ()).cells)[j%2]? =some u:=by
   have J:=eT (f:=fI.cells) (sz:=2) (λ_=>rfl) d (j/2) (j%2) I (Nat.mod_lt _ (by decide));rw[show j/2*2+j%2=j by omega,r]at J;rw[aU,jZ I,Option.getD_some,<-J]
  have X:((⟨b,i,none⟩:Addr).add j)=⟨b,i+j,none⟩:=by
   unfold Addr.add;split
   .rename_i Y;subst Y;rfl
   .rfl
  have K:=W (j%2) u C;rw[show i+j/2*2+j%2=i+j by omega]at K;rw[X];exact(v.aJ.cell (p:=⟨b,i+j,none⟩) B).trans K
 have⟨Z,L,hr,E,hg,_⟩:=run_append_own (P:=prog) (w:=w.alloc (aB #[] 116 (0,0))) w 23 0 116 O (aG #[an ar 0,aA ByteArray.empty]) 2 24 underlying23 Q y z A rfl (by decide) _ 0 [] g a d.length m (d.flatMap fI.cells) q k (by
  intro u r;simp only[List.mem_flatMap,fI.cells,bQ,ez,or_false]at r;obtain⟨_,_,rfl|rfl⟩:=r<;>rfl) (by unfold maxLen;omega) (by omega) v.size
 rw[eJ,List.nil_append]at E;obtain⟨s,t,rfl,_⟩:=Own.len (show Own w 116 2 L Z (d.flatMap fI.cells) d.length from E);refine⟨s,t,L,λ_=>hr,E,v.aJ.trans (Below.grow hg (λx hx=> ?_) v.size),rfl⟩;exact(World.ownsRow.lt g x hx).1
def UY{v:ah}{l:List fI}(h:aT fI.cells 2 w v l)(m:l.length<=1000):
 aj prog 79 #[v] w λe w'=>∃a c,e=ax (av a l.length c)/\Own w 116 2 w' (av a l.length c) (l.flatMap fI.cells) l.length/\ai w w w':=by
 have H:=au h;obtain⟨a,f,rfl,n,x,i⟩:=h;unfold maxLen at n;cases a with
 |none=>
  have p:l.length=0:=by
   by_cases q:0<l.length
   .have⟨b,r,e,_⟩:=i 0 q
    cases e
   .omega
  have:l=[]:=List.length_eq_zero_iff.1 p;subst this;clear i;have s:=λW=>lF (P:=prog) W 23 116 none 0 f 0 0 underlying23
  simp only[dx];go_in;go_wp2;go_ret;exact⟨_,_,rfl,World.ownsRow_nil _ _ _ _,aO _ _⟩
 |some a=>
  have s:=λW=>lF (P:=prog) W 23 116 (some a) l.length f 0 0 underlying23
  have⟨y,z,w',d,j,k,_⟩:=aa7 H.o m;have⟨g,t,u⟩:=aX d j k;clear i d j k;go_in;go_wp2_with (refine cE (by rfl) (.tmp 5) (.tmp 6) 23 (by rfl) _ _ _ w' (by rfl) (by rfl) (g.o _) ?_);go_ret;exact⟨_,_,rfl,t.o,u.o⟩
def aV.trim(c:aV)(cv:ah):aV:={c with wv:=(),words:=[],cv:=cv}
def UZ(a:ah)(h:fX c=true):fX (c.trim a)=true:=by
 unfold fX at h⊢;simp only[cV,ei]at h⊢;exact⟨by rfl,h.2.1,h.2.2⟩
def xr(a:ah)(h:fX c=true):aZ (c.trim a)=aZ c:=by
 unfold aZ;rw[aI h,aI (UZ a h)];rfl
def Ke(a:ah)(h:fX c=true)(s:Int):bR (c.trim a) s=bR c s:=by
 unfold bR;rw[xr a h];rfl
end Go.Proofs.YtjpnlfpompnpkaaGreat
