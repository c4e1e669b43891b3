import Derived.Test.YtjpnlfpompnpkaaGreatP52
import Derived.Test.YtjpnlfpompnpkaaGreatP53
namespace Go.Proofs.YtjpnlfpompnpkaaGreat
open Go.RowKit Go.Proofs.Tryz
open Go.Value renaming int->an,slice->av,bool->aw,string->aA,tuple->aM,pointer->aL,agg->aG
open Go.IntKind renaming i64->ar
open Go.Ending renaming returned->ax
open Go.Obj renaming cells->aB
open Go renaming World->ae,Value->ah,Calls->aj,Ending->ak
open Go.RowKit renaming Below->ai
set_option maxRecDepth 100000
set_option linter.all false
set_option maxHeartbeats 2000000
open Go.ChangeMaps mX
variable{P:Tg->Prop}{τ br:cj}{w w':ae}{c:aV}{xb rb np:Nat}{rs:List cS}{v:ah}{ls:List fF}{E:List (Nat×Obj)}{s:di×cS}{wr y:ae}
variable{r:cS}
def tj(e:cO):Prop:=ld e.at'/\e.text.size<=1000
def abS{a:cf}(h:nG a=true):a.text.size<=1000/\a.batch<=1000/\ld a.aR:=by
 have⟨b,d,_,_,_,_,e,_⟩:=AL h;have:=b a.aR (by simp);exact⟨by omega,by omega,eN (by omega) (by omega)⟩
def agm{M:ae}{x:di}{r:cS}{n:Nat}(h:dN c xb rb np rs () [] E τ M (x,r) w)(j:f_ c n x)(X:n<=5000)(e:cO)(N:tj e)(h1:r.sent.length<=1000)(h2:r.lost.length<=1000):
 aj prog 47 #[xb,rb,e.vl] w λi w'=>i=ax (aM #[])/\dN c xb rb np rs () [] E τ M (cM c x r e) w':=by
 obtain⟨o,nd,at',d,tx,l,i⟩:=e;obtain⟨s,u⟩:=N;have s:ld at':=s;have u:tx.size<=1000:=u;have z:=j.workers;have O:=j.nx;have v:∀t∈x.co.told,t.items.length<=100000:=λt u=>by have:=j.td.ln t u;omega
 have f:x.next<=10000000:=by omega
 unfold cO.vl;simp only;by_cases e1:o=1
 .subst e1
  have:=(rS (c:=c) x.co tx l i z).2;exact NM h nd at' d tx l i j.co (by omega) u v (by omega) f h1 h2
 by_cases e2:o=2
 .subst e2
  have:=(rT (c:=c) x.co at' z).2;exact NN h nd at' d tx l i j.co (by omega) s (by omega) f h1 h2
 by_cases e3:o=3
 .subst e3
  exact VB h nd at' d tx l i j.co
 by_cases Q:o=4
 .subst Q
  by_cases A:0<=nd/\nd<=x.ws.length
  .have B:cM c x r ⟨4,nd,at',d,tx,l,i⟩=dh c (gM c x nd d).1 r nd (gM c x nd d).2:=by
    unfold cM;rw[aC (by simp),aC (by simp),aC (by simp),aI rfl,aI A]
   obtain⟨t,rfl⟩:∃t:Nat,nd=t:=⟨nd.toNat,by omega⟩
   rw[B];cases t with
   |zero=>
    have hl:=F9 j.co (by omega) d;refine RW h 0 at' d tx l i (bz _) (λ_ y C=>C.abQ j.co (by omega) (by omega) j.af.ok d) (by have:=j.wl;omega) (bD hl.2 (by decide)) f h1 h2
   |succ k=>
    have p:k<x.ws.length:=by omega
    have F:gM c x ((k+1:Nat):Int) d=({x with ws:=x.ws.set k (dO (x.ws.getD k ())).1},(dO (x.ws.getD k ())).2):=by
     unfold gM di.wk di.set;rw[aC (by omega),aI (by omega)];simp
    have hl:=(KO (x.ws.getD k ()) (j.aq k p)).2.2.2.2;rw[F];exact RX h (k+1) at' d tx l i p (λ_ y C=>C.abR p (λa s=>abS (j.aq k p a s)) d) (by have:=j.wl;omega) (bD hl (by decide)) f h1 h2
  .have B:cM c x r ⟨4,nd,at',d,tx,l,i⟩=(x,r):=by
    unfold cM;rw[aC (by simp),aC (by simp),aC (by simp),aI rfl,aC A]
   rw[B];refine RV h nd at' d tx l i A ?_ (by have:=j.wl;omega);obtain⟨_,m,_,g1,g2,_⟩:=h;have⟨b,G,cap,c1,c2,_⟩:=g1.cl.node g2;exact⟨b,G,cap,c1⟩
 by_cases F:o=5
 .subst F
  exact KM h nd at' d tx l i (λg H=>by have q:=j.nt.g g H;have:=j.wl;exact⟨q.1,q.2.2.1,by have:=q.2.2.2;omega⟩) j.co (by omega) v (λm _=>by have:=(PC (c:=c) x.co m z).2;omega) f h1 h2
 by_cases T:o=6
 .subst T
  exact VD h nd at' d tx l i h2
 by_cases U:o=7
 .subst U
  exact NO h nd at' d tx l i λg H=>by have:=(j.nt.g g H).2.1;omega
 by_cases V:o=8
 .subst V
  exact RP h nd at' d tx l i
 by_cases W:o=9
 .subst W
  exact RQ h nd at' d tx l i
 by_cases I:o=10
 .subst I
  exact KN h nd at' d tx l i λk J=>by have:=j.lf k J;omega
 by_cases K:o=11
 .subst K
  exact NP h nd at' d tx l i s
 by_cases L:o=12
 .subst L
  exact NQ h nd at' d tx l i s
 exact VC h o nd at' d tx l i (by omega)
def cS.vl(r:cS)(sv lv:ah):ah:=qC r.ev.kind r.ev.node r.ev.at' r.ev.x r.ev.text r.ev.k r.ev.n r.verdict r.id r.got sv lv
def ZE(c:aV)(xb:Nat)(x:di)(r:cS)(rs:List cS)(τ:cj)(w:ae)(e:ak)(w':ae):Prop:=
 ∃sv lv,e=ax (r.vl sv lv)/\(∃a n k,sv=av a n k)/\(∃a n k,lv=av a n k)/\∃br m,lx c br w' m x (rs++ [r])/\m.xb=xb/\Fr (uA rs.length) τ br w w'/\
  (∃g,Seg w' 56 3 g sv (r.sent.flatMap iE) r.sent.length/\∀b,g=some b->w.heap.size<=b/\br b=.keep)/\∃g,Seg w' 3 1 g lv (r.lost.flatMap dX) r.lost.length/\∀b,g=some b->w.heap.size<=b/\br b=.keep
def ZR:Obj:=aB #[an ar 0,an ar 0,an ar 0,an ar 0,aA ⟨#[]⟩,an ar 0,an ar 0,an ar 0,an ar 0,(),an ar 0,()] 45 (0,0)
def VH(e:cO):cS:=⟨e,0,0,[],-1,[]⟩
def VI(r:cS)(a:Int):∀(l:List fF) (x:di) (r:cS),(dh c x r a l).2.sent.length<=r.sent.length+l.length/\(dh c x r a l).2.lost.length<=r.lost.length+l.length
 | [],x,r=>by simp[dh]
 |y::l,x,r=>by
  have e:dh c x r a (y::l)=dh c (cF c a (x,r) y).1 (cF c a (x,r) y).2 a l:=rfl;have:=VI r a l (cF c a (x,r) y).1 (cF c a (x,r) y).2;have b:(cF c a (x,r) y).2.sent.length<=r.sent.length+1/\(cF c a (x,r) y).2.lost.length<=r.lost.length+1:=by
   unfold cF;split
   .constructor
    .simp
    .simp only
     split<;>simp
   .simp
  rw[e,cG];omega
variable{x:di}
def zO{n:Nat}(h:f_ c n x)(e:cO):(bC c x e).2.sent.length<=24/\(bC c x e).2.lost.length<=25:=by
 have o:=h.workers;have f:∀x r a (l:List fF),l.length<=24->r.sent=[]->r.lost.length<=1->(dh c x r a l).2.sent.length<=24/\(dh c x r a l).2.lost.length<=25:=λx r a l F E G=>by
  have:=VI (c:=c) r a l x r;rw[E]at this;simp only[dx]at this;omega
 unfold bC cM;by_cases p:e.kind=1
 .rw[aI p]
  exact f _ _ _ _ (by have:=(rS (c:=c) x.co e.text e.k e.n o).2;omega) rfl (by simp)
 rw[aC p];by_cases s:e.kind=2
 .rw[aI s]
  exact f _ _ _ _ (by have:=(rT (c:=c) x.co e.at' o).2;omega) rfl (by simp)
 rw[aC s];by_cases t:e.kind=3
 .rw[aI t];simp
 rw[aC t];by_cases u:e.kind=4
 .rw[aI u]
  by_cases v:0<=e.node/\e.node<=x.ws.length
  .rw[aI v]
   exact f _ _ _ _ (KQ h e.node e.x).2.1 rfl (by simp)
  .rw[aC v];simp
 rw[aC u];by_cases y:e.kind=5
 .rw[aI y]
  unfold eE;split
  .simp only
   split
   .simp
   .rename_i m g
    have i:m.may=true:=by
     obtain⟨q,j,_⟩|⟨H,j,i⟩:=rV (ij x.net e.at').fr
     .rw[j]at g;cases g
     .rw[j]at g;obtain rfl:=Option.some.inj g;exact i
    split
    .refine f _ _ _ _ (by have:=(KP (h.Bi (h.nt.took e.at')) (d:=(ij x.net e.at').tO) i).2.1;omega) ?_ ?_
     .split<;>rfl
     .split<;>simp
    .simp
  .simp
 rw[aC y];by_cases z:e.kind=6
 .rw[aI z]
  split<;>simp
 rw[aC z];by_cases A:e.kind=7
 .rw[aI A];simp
 rw[aC A];by_cases B:e.kind=8
 .rw[aI B];simp
 rw[aC B];by_cases C:e.kind=9
 .rw[aI C];simp
 rw[aC C];by_cases b:e.kind=10
 .rw[aI b];simp
 rw[aC b];split<;>simp
def NT{m:I3}{rs:List cS}(h:lx c τ w m x rs)(e:cO)(y:ae)(g:y=((w.alloc (aB e.cells.toArray 33 (0,0))).alloc ZR).alloc (aB (qB e.kind e.node e.at' e.x e.text e.k e.n 0 0 (-1) () ()).toArray 45 (0,0))):
 ∃a,dN c m.xb (w.heap.size+1+1) m.np rs () [] [(w.heap.size+1,ZR)] a y (x,VH e) y/\Fr (λ_=>False) τ a w y/\y.heap[w.heap.size]? =some (aB e.cells.toArray 33 (0,0)):=by
 have p:(w.alloc (aB e.cells.toArray 33 (0,0))).heap.size=w.heap.size+1:=by simp
 have q:((w.alloc (aB e.cells.toArray 33 (0,0))).alloc ZR).heap.size=w.heap.size+1+1:=by simp
 have r:y.heap[w.heap.size+1+1]? =some (aB (qB e.kind e.node e.at' e.x e.text e.k e.n 0 0 (-1) () ()).toArray 45 (0,0)):=by rw[g,<-q];exact a_ _ _
 have s:y.heap[w.heap.size+1]? =some ZR:=by rw[g];refine(fH _ _ _ (by simp)).trans ?_;rw[<-p];exact a_ _ _
 have t:y.heap[w.heap.size]? =some (aB e.cells.toArray 33 (0,0)):=by rw[g];exact(fH _ _ _ (by simp;omega)).trans ((fH _ _ _ (by simp)).trans (a_ _ _))
 have d:ai w w y:=by rw[g];exact(((aO _ _).alloc (aP _) _).alloc (by simp) _).alloc (by simp;omega) _
 have⟨a,f⟩:= @aD cj (λb=>if b<w.heap.size then τ b else if b=w.heap.size+1+1 then .rc rs.length else .tmp);have l:Fr (λ_=>False) τ a w y:=⟨d.os,d.tape,d.output,d.size,λk i=>by rw[f];simp only;rw[aI i],λk i _=>d.block k i⟩;refine⟨a,⟨a,m,⟨VH e,(),none,(),none⟩,⟨h.fr l (λ_ e=>e.elim),⟨r,by rw[f];simp;exactλh=>bL h (by omega),⟨Seg.nil _ _ _,Seg.nil _ _ _,λb j=>(by cases j),λb j=>(by cases j)⟩⟩⟩,rfl,rfl,rfl,Fr.refl _ _ _,gK.nil _ _,λb o e=> ?_⟩,l,t⟩;simp only[cm,Prod.mk.injEq]at e;obtain⟨rfl,rfl⟩:=e;exact⟨s,by rw[f];simp;exactλh=>bL h (by omega)⟩
def lx.frT{m:I3}{rs:List cS}(h:lx c τ w m x rs)(f:Fr (·=.tmp) τ br w w'):lx c br w' m x rs:=by
 have⟨b,d⟩:=h.nd.fr f h.nt (by simp);refine⟨f.at h.bx (by rw[h.t];simp),(f.old _ (az h.bx)).trans h.t,h.co.fr f (λt a e=> ?_) (by simp),h.wl,λi g=>(h.ws i g).fr f (λt a e=> ?_) (by simp),b,d,h.net.fr f (by simp),h.rc.fr f (by simp) (λk j=>by simp),h.rv⟩
 .have e:=e
  subst e;simp[dB]at a
 .have e:=e
  subst e;simp[e_,iP]at a
def VJ{xb o F qb:Nat}{x':di}{b:cS}{rs:List cS}{e:cj}{y z:ae}(G:dN c xb o F rs () [] [(qb,ZR)] e y (x',b) z)(H:rs.length<=100000):
 ∃i v' d f h,z.cell? ⟨xb,3,none⟩=some i/\(∃a n k,i=av a n k)/\
 (∀I,(Builtin.append_ #[36,36] I #[i,av (some ⟨z,0,none⟩) 1 1]).run prog (z.alloc (aB (qB b.ev.kind b.ev.node b.ev.at' b.ev.x b.ev.text b.ev.k b.ev.n b.verdict b.id b.got f h).toArray 45 (0,0)))=.ok v' d)/\(∃a n k,v'=av a n k)/\
 d.cell? ⟨xb,3,none⟩=some i/\d.frozen? ⟨xb,3,none⟩=false/\z.heap[o]? =some (aB (qB b.ev.kind b.ev.node b.ev.at' b.ev.x b.ev.text b.ev.k b.ev.n b.verdict b.id b.got f h).toArray 45 (0,0))/\(∃a n k,f=av a n k)/\(∃a n k,h=av a n k)/\
 (d.setCell ⟨xb,3,none⟩ v').heap[o]? =some (aB (qB b.ev.kind b.ev.node b.ev.at' b.ev.x b.ev.text b.ev.k b.ev.n b.verdict b.id b.got f h).toArray 45 (0,0))/\
 ∃br m',lx c br (d.setCell ⟨xb,3,none⟩ v') m' x' (rs++ [b])/\m'.xb=xb/\Fr (uA rs.length) e br y (d.setCell ⟨xb,3,none⟩ v')/\(d.setCell ⟨xb,3,none⟩ v').heap[qb]? =some ZR/\br qb=.tmp/\
  (∃g,Seg (d.setCell ⟨xb,3,none⟩ v') 56 3 g f (b.sent.flatMap iE) b.sent.length)/\∃g,Seg (d.setCell ⟨xb,3,none⟩ v') 3 1 g h (b.lost.flatMap dX) b.lost.length:=by
 obtain⟨J,m,p,j,rfl,h3,q,K,_,L⟩:=G;have q:p.r=b:=q;have⟨t,A⟩:=L qb ZR (iK ..);have⟨v',d,M,N,O,Q,T,U,br,m',V,W,B,X,C,Y⟩:=j.record (by omega);have E:=j.rb.bx;have⟨sa,sk,u,_⟩:=j.rb.a.s.len;have⟨la,lk,v,_⟩:=j.rb.a.l.len;subst q;have Z:=(Y qb (az t) A).trans t;exact⟨m.rv,v',d,p.sv,p.lv,M,N,O,Q,T,U,E,⟨_,_,_,u⟩,⟨_,_,_,v⟩,X.trans E,br,m',V,W,K.trans B,Z,(B.old qb (az t)).trans A,⟨_,C.s⟩,⟨_,C.l⟩⟩
def ZF{m:I3}{rs:List cS}(h:lx c τ w m x rs){n:Nat}(hk:f_ c n x)(hn:n<=5000)(Q:rs.length<=100000)(e:cO)(he:tj e):
 aj prog 24 #[m.xb,e.vl] w (ZE c m.xb (bC c x e).1 (bC c x e).2 rs τ w):=by
 have⟨y,hy⟩:=aD (((w.alloc (aB e.cells.toArray 33 (0,0))).alloc ZR).alloc (aB (qB e.kind e.node e.at' e.x e.text e.k e.n 0 0 (-1) () ()).toArray 45 (0,0)));have⟨T,hs,f0,y0⟩:=NT h e y hy;have pl:=az h.bx;have s:=au (agm hs hk hn e he (by simp[VH]) (by simp[VH]));have⟨_,xl,yl,_⟩:=hs.cells;have U:=zO hk e;have V:cM c x (VH e) e=bC c x e:=rfl;rw[V]at s;generalize bC c x e=S at*;obtain⟨x',d⟩:=S;simp only at U⊢;obtain⟨⟨E,F,G,H,I,J,K⟩,L,M,ss,N,ll⟩:=d;simp only at U;have⟨d,W⟩:= @aD cS (⟨⟨E,F,G,H,I,J,K⟩,L,M,ss,N,ll⟩);rw[<-W]at s⊢;have X:=au (show∀(sv lv f i:ah) (z j:ae) (br:cj) (O:I3),lx c br z O x' (rs++ [d])->O.xb=m.xb->Fr (uA rs.length) T br y z->z.heap[w.heap.size+1]? =some ZR->br (w.heap.size+1)=.tmp->(∃g,Seg j 56 3 g f (d.sent.flatMap iE) d.sent.length/\∀b,g=some b->z.heap.size<=b)->(∃g,Seg j 3 1 g i (d.lost.flatMap dX) d.lost.length/\∀b,g=some b->z.heap.size<=b)->(∃a n k,f=av a n k)->(∃a n k,i=av a n k)->ai z z j->
  ZE c m.xb x' d rs τ w (ax (d.vl f i)) (pq j (w.heap.size+1) d.ev.kind d.ev.node d.ev.at' d.ev.x d.ev.text d.ev.k d.ev.n d.verdict d.id d.got f i)/\
  (pq j (w.heap.size+1) d.ev.kind d.ev.node d.ev.at' d.ev.x d.ev.text d.ev.k d.ev.n d.verdict d.id d.got f i).heap[w.heap.size+1]? =some (aB (qB d.ev.kind d.ev.node d.ev.at' d.ev.x d.ev.text d.ev.k d.ev.n d.verdict d.id d.got f i).toArray 45 (0,0))fromλsv lv f i z j br O g1 g2 g3 g4 g5 g6 g7 g8 g9 u=>by
  have hwz:w.heap.size<=z.heap.size:=by have:=f0.size;have:=g3.size;omega
  have cg:aQ [w.heap.size+1] j (pq j (w.heap.size+1) d.ev.kind d.ev.node d.ev.at' d.ev.x d.ev.text d.ev.k d.ev.n d.verdict d.id d.got f i):=ET _ _ _ _ _ _ _ _ _ _ _ _ _ _;have hq:=(ch u).at g4 (by simp);have fa:Fr (·=.tmp) br (eP br z .keep) z j:=Fr.of_below u _ _ _;have fb:Fr (·=.tmp) (eP br z .keep) (eP br z .keep) j (pq j (w.heap.size+1) d.ev.kind d.ev.node d.ev.at' d.ev.x d.ev.text d.ev.k d.ev.n d.verdict d.id d.got f i):=Fr.fm cg (λb r=>by
   simp only[cm]at r;subst r;exact(fa.old _ (az g4)).trans g5)
  obtain⟨ga,ga1,v⟩:=g6;obtain⟨gl,gl1,A⟩:=g7;have hz1:=az g4;refine⟨⟨f,i,rfl,g8,g9,_,O,g1.frT (fa.trans fb),g2,((f0.mono λ_ e=>e.elim).trans g3).trans ((fa.trans fb).mono λt e=> ?_),⟨ga,ga1.bH cg (λb r=>by have:=v b r;simp;omega),λb r=>⟨by have:=v b r;omega,d_ (v b r)⟩⟩,⟨gl,gl1.bH cg (λb r=>by have:=A b r;simp;omega),λb r=>⟨by have:=A b r;omega,d_ (A b r)⟩⟩⟩,KH hq _ _ _ _ _ _ _ _ _ _ _ _⟩;have e:=e;subst e;exact⟨by simp,λk hk=>by simp⟩)
 have HZR:=au (λ(z:ae) (hz:dN c m.xb (w.heap.size+1+1) m.np rs () [] [(w.heap.size+1,ZR)] T y (x',d) z)=>VJ (hz.below (aO z z).drew) Q);have⟨d0,d1,d2,d3,d4,d5,d6⟩:=qN y0;obtain⟨kd,nd,Y,ex,tx,ek,en⟩:=e;unfold cO.vl at s⊢;simp only at d0 d1 d2 d3 d4 d5 d6 s hy⊢;have HY:=au (show y=((w.alloc (aB #[kd,nd,Y,ex,aA tx,ek,en] 33 (0,0))).alloc (aB #[an ar 0,an ar 0,an ar 0,an ar 0,aA ⟨#[]⟩,an ar 0,an ar 0,an ar 0,an ar 0,(),an ar 0,()] 45 (0,0))).alloc (aB #[kd,nd,Y,ex,aA tx,ek,en,an ar 0,an ar 0,(),an ar (-1),()] 45 (0,0))from hy);clear hy y0 f0 hs h hk he V;generalize m.xb=xb at*;generalize m.np=np at*;generalize hq:w.heap.size=q at*;have HQ:=au hq;clear hq;go_in;go_upto_region 4 with fail
 rw[<-HY.o,HQ.o];go_wp2_with fail
 refine s.m ?_;rintro e z ⟨rfl,hz⟩;obtain⟨v0,v',Z,sv,lv,c1,⟨a0,n0,k0,rfl⟩,c3,⟨a1,n1,k1,rfl⟩,c5,c6,c7,⟨a2,n2,k2,rfl⟩,⟨a3,n3,k3,rfl⟩,c10,br,O,c11⟩:=HZR.o z hz;subst W;have c7:z.heap[q+1+1]? =some (aB #[E,F,G,H,aA I,J,K,L,M,av a2 n2 k2,N,av a3 n3 k3] 45 (0,0)):=c7;have⟨akJ,akK,gN⟩:=aX c11 c10 (show∀ty,(Builtin.append_ #[36,36] ty #[av a0 n0 k0,av (some ⟨z.drew,0,none⟩) 1 1]).run prog (z.drew.alloc (aB #[E,F,G,H,aA I,J,K,L,M,av a2 n2 k2,N,av a3 n3 k3] 45 (0,0)))=.ok (av a1 n1 k1) Z from c3);have B:z.cell? ⟨xb,3,none⟩=some (av a0 n0 k0):=c1;have zxl:xb<z:=iV z _ B;have hZa:=λo=>(((aO z z).alloc (aP _) o).cell (p:=⟨xb,3,none⟩) zxl).trans B
 have xbz:xb<Z:=iV Z _ c5;have zrl:=az c7;have⟨p0,p1,p2,p3,p4,p5,p6,p7,p8,p9,p10,p11⟩:=mD c7;clear c11 hz c1 c3 c7 c10 d0 d1 d2 d3 d4 d5 d6;go_wp2_with fail
 go_upto_region 5 with fail
 go_region_law (first
  |(refine iU (by rfl) (.tmp 18) (.tmp 20) 36 (by rfl) _ _ _ Z (by rfl) (by rfl) (gN.o _) ?_)
  |fail)
 all_goals
  generalize hY:World.setCell Z _ _=y5;have C:=au (show y5.heap[q+1+1]? =some (aB #[E,F,G,H,aA I,J,K,L,M,av a2 n2 k2,N,av a3 n3 k3] 45 (0,0))by rw[<-hY];exact akK.o);have h7:=C.o;have Q:=az h7;have⟨g0,g1,g2,g3,g4,g5,g6,g7,g8,g9,u,g11⟩:=mD h7;have⟨i1,i2,i3,i4,i5,⟨sg,i6⟩,lg,i7⟩:=akJ.o;rw[hY]at i1 i3 i4 i6 i7;have⟨HOW,Wm,Wl⟩:=aX (PL E F G H I J K L M N i6 i7 (by omega) (by omega)) (λf i j=>X.o (av a2 n2 k2) (av a3 n3 k3) f i y5 j br O i1 i2 i3 i4 i5) i4;clear i1 i3 i4 i6 i7 h7 B hZa p0 p1 p2 p3 p4 p5 p6 p7 p8 p9 p10 p11 zrl zxl xbz c5 c6;go_upto_region 6 with fail
  go_wp2_with fail
  refine HOW.m ?_;rintro e j ⟨f,i,rfl,o1,o2,⟨a4,n4,k4,rfl⟩,⟨a5,n5,k5,rfl⟩,o5⟩;have⟨q1,q2⟩:=Wm.o _ _ j o1 o2 ⟨_,_,_,rfl⟩ ⟨_,_,_,rfl⟩ o5;have l:=(o5.block _ (az Wl.o)).trans Wl.o;have⟨Wq,HQ3⟩:=aK q1 q2;have l:j.heap[q+1]? =some (aB #[an ar 0,an ar 0,an ar 0,an ar 0,aA ⟨#[]⟩,an ar 0,an ar 0,an ar 0,an ar 0,(),an ar 0,()] 45 (0,0)):=l;have ql:=az l;have⟨s0,s1,s2,s3,s4,s5,s6,s7,s8,s9,s10,s11⟩:=mD l;have fz:=bB l;clear l q1 q2 o1 o2 o5;unfold qC;go_wp2_with fail
  refine fS (w:=pq j (q+1) E F G H I J K L M N (av a4 n4 k4) (av a5 n5 k5)) (dV rfl rfl (KG _ _ _ _ _ _ _ _ _ _ HQ3.o)) rfl ?_;exact Wq.o
def nm(c:aV):∀(l a:List cO) (x:di),cT c x (l++a)=((cT c (cT c x l).1 a).1,(cT c x l).2++(cT c (cT c x l).1 a).2)
 | [],a,x=>rfl
 |e::l,a,x=>by
  show((cT c (bC c x e).1 (l++a)).1,(bC c x e).2::(cT c (bC c x e).1 (l++a)).2)=_
  rw[nm c l a];rfl
def pY(c:aV)(l:List cO)(e:cO)(x:di):cT c x (l++ [e])=((bC c (cT c x l).1 e).1,(cT c x l).2++ [(bC c (cT c x l).1 e).2]):=by
 rw[nm];rfl
def kE(c:aV):∀(l:List cO) (x:di),(cT c x l).2.length=l.length
 | [],_=>rfl
 |e::l,x=>by
  show((bC c x e).2::(cT c (bC c x e).1 l).2).length=_
  rw[cG,kE c l,cG]
def KT:∀(l:List cO) {n:Nat} {x:di},f_ c n x->f_ c (n+l.length) (cT c x l).1
 | [],_,_,h=>h
 |e::l,n,x,h=>by
  have:=KT l (rW h e);rw[cG,show n+(l.length+1)=n+1+l.length by omega];exact this
def KU:∀(l:List cO) {n:Nat} {x:di},f_ c n x->∀r∈(cT c x l).2,r.sent.length<=24/\r.lost.length<=25
 | [],_,_,_,_,a=>by cases a
 |e::l,n,x,h,r,a=>by
  obtain rfl|a:=List.mem_cons.1 a
  .exact zO h e
  .exact KU l (rW h e) r a
def bW(c:aV)(es:List cO):di:=(cT c (gA c) es).1
def iQ(c:aV)(es:List cO):List cS:=(cT c (gA c) es).2
def tu(a:fX c=true)(es:List cO):f_ c es.length (bW c es):=by
 have:=KT es (Gg a);rw[eJ]at this;exact this
def Bk(c:aV)(es:List cO){k:Nat}(a:k<es.length):bW c (es.take (k+1))=(bC c (bW c (es.take k)) (es[k])).1/\iQ c (es.take (k+1))=iQ c (es.take k)++ [(bC c (bW c (es.take k)) (es[k])).2]:=by
 unfold bW iQ;rw[fG a,pY];exact⟨rfl,rfl⟩
def iF(B:Nat)(w:ae)(v:ah)(rs:List cS):Prop:=
 ∃(ms:List RcM) (g:Option Nat),ms.map RcM.r=rs/\Seg w 45 12 g v (ms.flatMap RcM.cells) ms.length/\(∀b,g=some b->B<=b)/\∀m∈ms,(Seg w 56 3 m.sg m.sv (m.r.sent.flatMap iE) m.r.sent.length/\∀b,m.sg=some b->B<=b)/\Seg w 3 1 m.lg m.lv (m.r.lost.flatMap dX) m.r.lost.length/\∀b,m.lg=some b->B<=b
def iF.nil(B:Nat)(w:ae):iF B w () []:=⟨[],none,rfl,Seg.nil _ _ _,by simp,by simp⟩
variable{B:Nat}
def iF.below{v:ah}{rs:List cS}(h:iF B w v rs)(e:ai w w w'):iF B w' v rs:=by
 obtain⟨f,g,i,j,k,a⟩:=h;have d:=ch e;exact⟨f,g,i,j.bH d (by simp),k,λm b=>⟨⟨(a m b).1.1.bH d (by simp),(a m b).1.2⟩,(a m b).2.1.bH d (by simp),(a m b).2.2⟩⟩
def iF.mono{B':Nat}{v:ah}{rs:List cS}(h:iF B w v rs)(f:B'<=B):iF B' w v rs:=by
 obtain⟨i,g,j,k,l,d⟩:=h;exact⟨i,g,j,k,λb a=>bD f (l b a),λm e=>⟨⟨(d m e).1.1,λb a=>bD f ((d m e).1.2 b a)⟩,(d m e).2.1,λb a=>bD f ((d m e).2.2 b a)⟩⟩
def iF.len{v:ah}{rs:List cS}(h:iF B w v rs):∃a k,v=av a rs.length k/\rs.length<=k/\rs.length<=maxLen:=by
 obtain⟨b,g,d,e,i,j⟩:=h;have f:b.length=rs.length:=by rw[<-d,cr]
 rw[<-f];exact e.len
def iF.push{v:ah}{rs:List cS}(h:iF B w v rs)(r:cS){p q:ah}{f i:Option Nat}(s:Seg w 56 3 f p (r.sent.flatMap iE) r.sent.length)(L:∀b,f=some b->B<=b)(t:Seg w 3 1 i q (r.lost.flatMap dX) r.lost.length)(y:∀b,i=some b->B<=b)(hn:rs.length<=1000000)(M:B<=w):
 ∃a k w',(∀N,(Builtin.append_ #[36,36] N #[v,av (some ⟨w,0,none⟩) 1 1]).run prog (w.alloc (aB (RcM.cells ⟨r,p,f,q,i⟩).toArray 45 (0,0)))=.ok (av a (rs.length+1) k) w')/\iF B w' (av a (rs.length+1) k) (rs++ [r])/\ai B w w':=by
 obtain⟨F,g,G,j,H,O⟩:=h;have l:F.length=rs.length:=by rw[<-G,cr]
 have⟨sa,sc,z,_⟩:=s.len;have⟨la,lc,A,_⟩:=t.len;have⟨v2,w',Q,I,C,n,T⟩:=j.push 36 underlying36 KL rfl (by decide) (RcM.cells ⟨r,p,f,q,i⟩) rfl (λu E=>by
  unfold RcM.cells cO.cells at E;simp only[List.cons_append,List.nil_append,bQ,ez,or_false]at E;rcases E with rfl|rfl|rfl|rfl|rfl|rfl|rfl|rfl|rfl|rfl|rfl|rfl<;>first|rfl|(rw[z];rfl)|(rw[A];rfl)) (by omega) (by decide)
 have⟨U,V,W,_⟩:=C.len;subst W;rw[l]at I C;refine⟨U,V,w',I,⟨F++ [⟨r,p,f,q,i⟩],Q,by simp[G],?_,?_,λm o=> ?_⟩,n.below (λx X=>H x (by simpa using X)) M⟩
 .rw[fQ,bF,l,List.flatMap_singleton]
  exact C
 .intro b d
  obtain e|⟨b',e,Y⟩:=T
  .exact H b (by rw[<-e,d])
  .rw[e]at d
   simp only[bA]at d;omega
 .obtain o|o:=List.mem_append.1 o
  .have⟨⟨J,Z⟩,K,k4⟩:=O m o
   exact⟨⟨J.bH n (λb d e=>jW j J (by decide) b d (by simpa using e)),Z⟩,K.bH n (λb d e=>jW j K (by decide) b d (by simpa using e)),k4⟩
  .rw[List.mem_singleton.1 o]
   exact⟨⟨s.bH n (λb d e=>jW j s (by decide) b d (by simpa using e)),L⟩,t.bH n (λb d e=>jW j t (by decide) b d (by simpa using e)),y⟩
def VK{m:I3}{x:di}{rs:List cS}(h:lx c τ w m x rs)(hl:rs.length<=1000000)(hn:∀r∈rs,r.sent.length<=1000/\r.lost.length<=1000):
 aj prog 45 #[m.xb] w λe w'=>∃v,e=ax v/\iF w w' v rs/\ai w w w':=by
 have d:m.rs.length=rs.length:=by rw[<-h.rv,cr]
 have H:=au h;have hx:=h.bx;have⟨da,YJ,T,dl1,U⟩:=h.rc.s.len;rw[T,d]at hx;rw[d]at dl1 U;have c3:=aF hx 3 rfl;have pl:=az hx;unfold maxLen at U;have⟨HN,HLEN,HDV⟩:=aX hn d T;have⟨N,hN⟩:=aD rs.length;rw[<-hN]at c3 dl1 U hl;have U2:=au hN;have⟨Q,hQ⟩:= @aD (ak->ae->Prop) (λe w'=>∃v,e=ax v/\iF w w' v rs/\ai w w w');have HQ:=au (show∀v y,iF w y v (rs.take N)->ai w w y->Q (ax v) y fromλv y t A=>by
  rw[hN,fR]at t;rw[hQ];exact⟨v,rfl,t,A⟩)
 rw[<-hQ];have⟨xb,hxb⟩:=aD m.xb;rw[<-hxb]at c3 pl⊢;clear hQ hN d T hn h hx hxb;go_in;go_wp2_with fail
 go_loopw [3,13] (λv i wr=>∃j:Nat,i=an ar j/\j<=N/\iF w wr v (rs.take j)/\ai w w wr) (λ_ i _=>N-(intOf i).toNat)
 case atStart=>exact⟨0,rfl,bz _,by rw[List.take_zero];exact iF.nil _ _,aO _ _⟩
 case round=>
  obtain⟨j,rfl,hj,ht,z⟩:=hrel;by_cases hlt:j<N
  .have V:j<rs.length:=by rw[<-U2.o];exact hlt
   have C:j<m.rs.length:=by rw[HLEN.o];exact V
   have⟨r,hr⟩:=aD (rs[j]);have h1:=H.o.fr (P:=λ_=>False) (Fr.eS z _ _) (λ_ e=>e.elim);have⟨b,off,cp,e1,e2,e3,e4⟩:=h1.rc.s.cell (by decide) j C;rw[HDV.o]at e2;simp only[bG]at e2;obtain⟨rfl,_,rfl⟩:=e2;have E:(m.rs[j]).r=r:=by
    have e:(m.rs.map RcM.r)[j]? =rs[j]? :=by rw[H.o.rv]
    simpa[C,V,<-hr]using e
   have F:=h1.rc.r j C;have⟨mr,k⟩:=aD (m.rs[j]);have g:=λq u hq hu=>(e4 q u hq (by rw[eT (f:=RcM.cells) (λ_=>rfl) _ _ _ C hq];rw[<-k];exact hu)).1
   rw[<-k]at E F;obtain⟨⟨⟨W,t,A,X,Y,Z,k6⟩,k7,k8,ss,a,ll⟩,sv,sg,lv,lg⟩:=mr;have G:=F.s;have I:=F.l;simp only at G I;have⟨sa,sc,hsv,_⟩:=G.len;have⟨la,lc,hlv,_⟩:=I.len;subst hsv;subst hlv;have g0:=g 0 W (by decide) rfl;have g1:=g 1 t (by decide) rfl;have g2:=g 2 A (by decide) rfl;have g3:=g 3 X (by decide) rfl;have g4:=g 4 (aA Y) (by decide) rfl;have g5:=g 5 Z (by decide) rfl;have g6:=g 6 k6 (by decide) rfl;have g7:=g 7 k7 (by decide) rfl;have g8:=g 8 k8 (by decide) rfl;have g9:=g 9 (av sa ss.length sc) (by decide) rfl;have g10:=g 10 a (by decide) rfl;have g11:=g 11 (av la ll.length lc) (by decide) rfl;simp only[bM]at g0;have J:=HN.o r (by rw[hr];exact eA _);rw[<-E]at J;have arl:ss.length<=1000:=J.1;have arn:ll.length<=1000:=J.2;have⟨u,hu⟩:=aD (wr.alloc (aB #[W,t,A,X,aA Y,Z,k6,k7,k8,av sa ss.length sc,a,av la ll.length lc] 45 (0,0)));have K:ai wr wr u:=by rw[hu];exact(aO _ _).alloc (aP _) _
   have O:u.heap[wr.heap.size]? =some (aB #[W,t,A,X,aA Y,Z,k6,k7,k8,av sa ss.length sc,a,av la ll.length lc] 45 (0,0)):=by rw[hu];exact a_ _ _
   have hcu:=ch K;have⟨HOW,agn,HT⟩:=aX (PL W t A X Y Z k6 k7 k8 a (G.bH hcu (by simp)) (I.bH hcu (by simp)) (by omega) (by omega)) (show rs.take (j+1)=rs.take j++ [⟨⟨W,t,A,X,Y,Z,k6⟩,k7,k8,ss,a,ll⟩]by rw[fG V,<-hr,<-E]) (ht.below K);have hbu:=z.trans (K.mono z.size);have⟨L,HLJ⟩:=aK hbu (show(rs.take j).length=j by rw[dw];omega);have⟨d0,d1,d2,d3,d4,d5,d6,d7,d8,d9,d10,d11⟩:=mD O;have HU:=au hu;have q1:(0:Int)<=(j:Int):=by omega
   have q2:(j:Int)<(N:Int):=by omega
   clear ht z h1 e1 e4 E k F G I g hu K O hbu hr hcu J;go_upto_region 7 with fail
   rw[<-HU.o];go_wp2_with fail
   refine HOW.m ?_;rintro e y1 ⟨sv',lv',rfl,⟨g1',s1,s2⟩,⟨g2',l1,l2⟩,⟨a1,a2,a3,rfl⟩,⟨a4,a5,a6,rfl⟩,hy1⟩;have n:=L.o.trans (hy1.mono L.o.size);have⟨pa,pk,w2,p,M,hb2⟩:=(HT.o.below hy1).push ⟨⟨W,t,A,X,Y,Z,k6⟩,k7,k8,ss,a,ll⟩ s1 (λb z=>bD L.o.size (s2 b z)) l1 (λb z=>bD L.o.size (l2 b z)) (by rw[HLJ.o];omega) n.size;rw[HLJ.o]at p M;rw[<-agn.o]at M;have⟨gN,HL2,HB2⟩:=aX (show∀ty,(Builtin.append_ #[36,36] ty #[u3,av (some ⟨y1,0,none⟩) 1 1]).run prog (y1.alloc (aB #[W,t,A,X,aA Y,Z,k6,k7,k8,av a1 a2 a3,a,av a4 a5 a6] 45 (0,0)))=.ok (av pa (j+1) pk) w2 from p) M (n.trans hb2);clear p M hb2 n s1 s2 l1 l2 hy1 c3;clear g0 g1 g2 g3 g4 g5 g6 g7 g8 g9 g10 g11 d0 d1 d2 d3 d4 d5 d6 d7 d8 d9 d10 d11;unfold qC;go_wp2_with (refine cE (by rfl) (.tmp 17) (.tmp 20) 36 (by rfl) _ _ _ w2 (by rfl) (by rfl) (gN.o _) ?_);go_roundw
   case rel=>exact⟨j+1,by simp,by omega,HL2.o,HB2.o⟩
   case measure=>simp[intOf];omega
  .obtain rfl:j=N:=by omega
   have HE:=au (HQ.o _ _ ht z);clear ht z;go_wp2;exact HE.o
def VL(c:aV)(xb B:Nat)(w0:ae)(es:List cO)(y:ae):Prop:=
 ∃br m,lx c br y m (bW c es) (iQ c es)/\m.xb=xb/\(∀b,b<B->br b=.keep)/\B<=w0/\ai B w0 y
def VL.below{xb B:Nat}{d y f:ae}{es:List cO}(h:VL c xb B d es y)(g:ai y y f):VL c xb B d es f:=by
 obtain⟨br,m,j,k,l,n,i⟩:=h;have o:=i.size;refine⟨eP br y .keep,m,j.fr (P:=λ_=>False) (Fr.of_below g _ _ _) (λ_ e=>e.elim),k,λb a=>(dZ (by omega)).trans (l b a),n,i.trans (g.mono (by omega))⟩
def PM(n:Nat):¬uA n .keep:=λh=>h.1 rfl
def VL.step{xb B:Nat}{j y:ae}{es:List cO}{k:Nat}(p:fX c=true)(q:k<es.length)(G:es.length<=4000)(r:tj es[k])(h:VL c xb B j (es.take k) y):
 aj prog 24 #[xb,(es[k]).vl] y λe z=>∃v,e=ax v/\VL c xb B j (es.take (k+1)) z:=by
 obtain⟨br,m,s,t,l,u,f⟩:=h;have d:=tu p (es.take k);have a:(es.take k).length=k:=by rw[dw];omega
 have x:(iQ c (es.take k)).length=k:=by unfold iQ;rw[kE,a]
 rw[a]at d;have⟨A,C⟩:=Bk c es q;rw[<-t];refine(ZF s d (by omega) (by omega) (es[k]) r).mono ?_;rintro e z ⟨H,I,rfl,_,_,g,E,n,F,o,_⟩;rw[<-A,<-C]at n;refine⟨_,rfl,g,E,n,F,λb i=>(o.old b (by have:=f.size;omega)).trans (l b i),u,f.trans (o.below (λb i=>by rw[l b i];exact PM _) (by have:=f.size;omega))⟩
def YQ(c:aV)(es:List cO)(B:Nat)(w':ae)(tv rv:ah)(n:Int):Prop:=
 (fX c=true->n=0/\eM B w' tv (bW c es).co.told/\iF B w' rv (iQ c es))/\(fX c=false->n=2/\eM B w' tv []/\iF B w' rv [])
def NU(c:aV)(es:List cO)(v:ah)(w:ae)(hok:c.ok w)(V:aT cO.cells 7 w v es)(hl:es.length<=4000)(he:∀e∈es,tj e):
 aj prog 17 #[c.val,v] w λe w'=>∃T U n,e=ax (aM #[T,U,an ar n])/\YQ c es w w' T U n/\ai w w w':=by
 have⟨u,hu⟩:=aD (w.alloc (aB c.cells.toArray 25 (0,0)));have⟨K,hg,hl2⟩:=aV.box hu;have H:=hl2.aJ;obtain⟨va,vc,rfl,hn1,hn2,hrd⟩:=id V;unfold maxLen at hn1;have⟨N,hN⟩:=aD es.length;have L:=hok.below H;have Er:=au (V.below H);have h0:=K 0 _ rfl;have h1:=K 1 _ rfl;have h2:=K 2 _ rfl;have h3:=K 3 _ rfl;have h4:=K 4 _ rfl;have h5:=K 5 _ rfl;have h6:=K 6 _ rfl;have h7:=K 7 _ rfl;have h8:=K 8 _ rfl;have h9:=K 9 _ rfl;have h10:=K 10 _ rfl;have h11:=K 11 _ rfl;have⟨Q,hQ⟩:= @aD (ak->ae->Prop) (λe w'=>∃T U n,e=ax (aM #[T,U,an ar n])/\YQ c es w w' T U n/\ai w w w');rw[<-hQ];by_cases W:fX c=true
 .have M:=au (show aj prog 44 #[c.val] u λe y=>∃B,e=ax (aM #[aL (some ⟨B,0,none⟩),an ar 0])/\VL c B u u (es.take 0) y by
   refine(EU c u L W).mono ?_;rintro e y ⟨br,m,rfl,k1,k2⟩;exact⟨m.xb,rfl,br,m,k1,rfl,λb hb=>k2.old b hb,aP _,k2.below (λ_ _ e=>e) (aP _)⟩)
  have HST:=au (show∀B y k (hk:k<es.length),VL c B u u (es.take k) y->aj prog 24 #[aL (some ⟨B,0,none⟩),(es[k]).vl] y λe z=>∃v,e=ax v/\VL c B u u (es.take (k+1)) z fromλB y k hk h=>h.step W hk hl (he _ (eA _)));have HAL:=au (show∀B y,VL c B u u es y->∃cb,B<y.heap.size/\y.cell? ⟨B,0,none⟩=some (aL (some ⟨cb,0,none⟩))/\aj prog 30 #[aL (some ⟨cb,0,none⟩)] y λe z=>∃T,e=ax T/\aj prog 45 #[aL (some ⟨B,0,none⟩)] z λe z2=>∃U,e=ax U/\Q (ax (aM #[T,U,an ar 0])) z2 fromλB y h=>by
   obtain⟨br,m,k1,k2,k3,k4,k5⟩:=h;have hx:=k1.bx;rw[k2]at hx;have X:=tu W es;have htl:=X.co.tl;have hlb:=X.co.lb;refine⟨m.co.cb,az hx,aF hx _ rfl,?_⟩;refine(afR k1.co (by omega) (λt ht=>by have:=X.td.ln t ht;omega)).mono ?_;rintro e z ⟨T,rfl,a1,a2⟩;refine⟨T,rfl,?_⟩;have k6:=k1.fr (P:=λ_=>False) (Fr.eS a2 _ _) (λ_ e=>e.elim);rw[<-k2];have hrl:(iQ c es).length=es.length:=by unfold iQ;exact kE _ _ _
   refine(VK k6 (by omega) (λr hr=>by have:=KU es (Gg W) r hr;omega)).mono ?_;rintro e z2 ⟨U,rfl,b1,b2⟩;refine⟨U,rfl,?_⟩;rw[hQ];have hws:w.heap.size<=y.heap.size:=by have:=k5.size;omega
   have hyz:=a2.size;refine⟨T,U,0,rfl,⟨λ_=>⟨rfl,(a1.below b2).mono hws,b1.mono (by omega)⟩,λe=>by rw[W]at e;cases e⟩,?_⟩;exact((H.trans (k5.mono (by omega))).trans (a2.mono hws)).trans (b2.mono (by omega)))
  have⟨q,hq⟩:=aD w.heap.size;have⟨C,hC⟩:=aD c;rw[<-hq]at h0 h1 h2 h3 h4 h5 h6 h7 h8 h9 h10 h11;obtain⟨wv,cv,I,Y,a,f,l,s,aS,x,first,J,g,net⟩:=c;have Z:aV.val ⟨wv,cv,I,Y,a,f,l,s,aS,x,first,J,g,net⟩=aG #[wv,cv,a,f,l,s,aS,x,first,J,g,net]:=rfl;rw[Z]at M⊢;have HU:=au (show u=w.alloc (aB #[wv,cv,a,f,l,s,aS,x,first,J,g,net] 25 (0,0))from hu);rw[<-hC]at M HST HAL;have HEQ:=au hq;have hN4:(N:Int)<=4000:=by omega
  have hNc:N<=vc:=by omega
  have U2:=au hN;rw[<-hN]at V⊢;have qH:=au hrd;clear hQ L V K hu hl2 hC hq Z hok W hn1 hn2 hN hrd he H;go_in;go_upto_region 1 with fail
  rw[<-HU.o,<-HEQ.o];go_wp2_with fail
  refine M.m ?_;rintro e y0 ⟨B,rfl,hr⟩;have HR:=au hr;clear hr;go_upto_region 4 with fail
  go_wp2_with fail
  have hmm:max (min (N:Int) 4000) 0=(N:Int):=by omega
  have hmn:(min (N:Int) 4000).toNat=N:=by omega
  rw[hmm,hmn];clear hmm hmn;go_loopw [25] (λi wr=>∃k:Nat,k<=N/\i=an ar k/\VL C B u u (es.take k) wr) (λi _=>N-(intOf i).toNat)
  case atStart=>exact⟨0,bz _,rfl,HR.o⟩
  case round=>
   obtain⟨k,hk,rfl,O⟩:=hrel;by_cases hlt:k<N
   .have hkl:k<es.length:=by rw[<-U2.o];exact hlt
    have⟨b,F,hva,hbl,d⟩:=qH.o k hkl;subst hva;have G:ai u u wr:=by obtain⟨_,_,_,_,_,_,hb⟩:=O;exact hb
    have hgd:es.getD k ()=es[k]:=by simp[aU,hkl]
    clear d;obtain⟨A,d⟩:b<u/\∀j v,(es[k]).cells[j]? =some v->u.cell? ⟨b,F+k*7+j,none⟩=some v:=by
     have⟨_,_,e1,_,_,hr2⟩:=Er.o;have⟨b',off',e2,hb',hc'⟩:=hr2 k hkl;simp only[bG]at e1;obtain⟨rfl,_,_⟩:=e1;simp only[bA,dr,et]at e2;obtain⟨rfl,rfl⟩:=e2;rw[hgd]at hc';exact⟨hb',hc'⟩
    have⟨E,hE⟩:=aD (es[k]);rw[<-hE]at d;have⟨y,hy⟩:=aD (wr.alloc (aB E.cells.toArray 33 (0,0)));have hby:ai wr wr y:=by rw[hy];exact(aO _ _).alloc (aP _) _
    have hyb:y.heap[wr.heap.size]? =some (aB E.cells.toArray 33 (0,0)):=by rw[hy];exact a_ _ _
    have HS:=au (HST.o B y k hkl (O.below hby));rw[<-hE]at HS;obtain⟨kd,nd,at',ex,tx,ek,en⟩:=E;have g0:=(G.cell (p:=⟨b,F+k*7+0,none⟩) A).trans (d 0 kd rfl);have g1:=(G.cell (p:=⟨b,F+k*7+1,none⟩) A).trans (d 1 nd rfl);have g2:=(G.cell (p:=⟨b,F+k*7+2,none⟩) A).trans (d 2 at' rfl);have g3:=(G.cell (p:=⟨b,F+k*7+3,none⟩) A).trans (d 3 ex rfl);have g4:=(G.cell (p:=⟨b,F+k*7+4,none⟩) A).trans (d 4 (aA tx) rfl);have g5:=(G.cell (p:=⟨b,F+k*7+5,none⟩) A).trans (d 5 ek rfl);have g6:=(G.cell (p:=⟨b,F+k*7+6,none⟩) A).trans (d 6 en rfl);have⟨d0,d1,d2,d3,d4,d5,d6⟩:=qN hyb;simp only[bM]at g0;unfold cO.vl at HS;have HY:=au (show y=wr.alloc (aB #[kd,nd,at',ex,aA tx,ek,en] 33 (0,0))from hy);have k1:(0:Int)<=(k:Int):=by omega
    have k2:(k:Int)<(N:Int):=by omega
    clear d hE hy hby hyb O hgd G hkl;go_upto_region 7 with fail
    rw[<-HY.o];go_wp2_with fail
    refine HS.m ?_;rintro e z ⟨v,rfl,hz⟩;have HZ:=au hz;clear hz g0 g1 g2 g3 g4 g5 g6 d0 d1 d2 d3 d4 d5 d6;go_wp2;go_roundw
    case rel=>exact⟨k+1,by omega,by go_num,HZ.o⟩
    case measure=>simp[intOf];omega
   .obtain rfl:k=N:=by omega
    have hfull:es.take k=es:=by rw[U2.o,fR]
    rw[hfull]at O;have⟨cb,p1,p2,p3⟩:=HAL.o B wr O;have HA:=au p3;clear p3 O;go_wp2_with fail
    refine HA.m ?_;rintro e z ⟨T,rfl,hz⟩;have HZ:=au hz;clear hz;go_wp2_with fail
    refine HZ.m ?_;rintro e z2 ⟨U,rfl,hz2⟩;have HZ2:=au hz2;clear hz2;go_wp2;go_ret3;exact HZ2.o
 .have W:fX c=false:=by simpa using W
  have M:=au (KS c u L W);have HF:=au (show∀y,ai u u y->Q (ax (aM #[(),(),an ar 2])) y fromλy hy=>by
   rw[hQ];exact⟨_,_,_,rfl,⟨λe=>(by rw[W]at e;cases e),λ_=>⟨rfl,eM.nil _ _,iF.nil _ _⟩⟩,H.trans (hy.mono H.size)⟩)
  have⟨q,hq⟩:=aD w.heap.size;rw[<-hq]at h0 h1 h2 h3 h4 h5 h6 h7 h8 h9 h10 h11;obtain⟨wv,cv,I,Y,a,f,l,s,aS,x,first,J,g,net⟩:=c;have Z:aV.val ⟨wv,cv,I,Y,a,f,l,s,aS,x,first,J,g,net⟩=aG #[wv,cv,a,f,l,s,aS,x,first,J,g,net]:=rfl;rw[Z]at M⊢;have⟨HU,HEQ⟩:=aK (show u=w.alloc (aB #[wv,cv,a,f,l,s,aS,x,first,J,g,net] 25 (0,0))from hu) hq;clear hQ L V K hu hl2 hq Z hok W hn1 hn2 hN hrd he H;go_in;go_upto_region 1 with fail
  rw[<-HU.o,<-HEQ.o];go_wp2_with fail
  refine M.m ?_;rintro e y0 ⟨rfl,hr⟩;have HE:=au (HF.o y0 hr);clear hr;go_wp2;go_ret3;exact HE.o
def mN(wv cv:ah):aV:=⟨wv,cv,[⟨#[97]⟩,⟨#[97,98,99]⟩,⟨#[98]⟩],[],1,1,1,2,5,9,2,4,0,8⟩
def jX(kind node at':Int):cO:=⟨kind,node,at',0,⟨#[]⟩,0,0⟩
def abT(s:ByteArray)(k n:Int):cO:=⟨1,0,0,0,s,k,n⟩
def tw:List cO:=[jX 4 1 0,jX 5 0 0,jX 5 0 0,abT ⟨#[97]⟩ 1 3,jX 4 0 0,jX 5 0 0,jX 4 1 0,jX 5 0 0]
def RY(a b:ah):fX (mN a b)=true:=by kernel_rfl
def NV(a b:ah):(bW (mN a b) tw).co.told=[⟨1,⟨#[97]⟩,1,3,[(0,⟨#[97]⟩),(1,⟨#[98]⟩)],true,false⟩]:=by kernel_rfl
def YR(w:ae)(a:Addr)(v:ah):(World.setCell w a v).heap.size=w.heap.size:=by simp[World.setCell]
def ev7(w:ae)(g:Nat)(u0 u1 u2 u3 u4 u5 u6:ah):ae:=(World.setCell (World.setCell (World.setCell (World.setCell (World.setCell (World.setCell (World.setCell w ⟨g,0,none⟩ (u0)) ⟨g,1,none⟩ (u1)) ⟨g,2,none⟩ (u2)) ⟨g,3,none⟩ (u3)) ⟨g,4,none⟩ (u4)) ⟨g,5,none⟩ (u5)) ⟨g,6,none⟩ (u6))
variable{g:Nat}
def VM{w:ae}{l m n o p q r:ah}(h:w.heap[g]? =some (aB #[l,m,n,o,p,q,r] 33 (0,0)))(u0 u1 u2 u3 u4 u5 u6:ah):(ev7 w g u0 u1 u2 u3 u4 u5 u6).heap[g]? =some (aB #[u0,u1,u2,u3,u4,u5,u6] 33 (0,0)):=by
 have a:=aE (i:=0) h u0;simp only[dF,cC,ct]at a;have b:=aE (i:=1) a u1;simp only[dF,cC,ct]at b;have d:=aE (i:=2) b u2;simp only[dF,cC,ct]at d;have e:=aE (i:=3) d u3;simp only[dF,cC,ct]at e;have f:=aE (i:=4) e u4;simp only[dF,cC,ct]at f;have j:=aE (i:=5) f u5;simp only[dF,cC,ct]at j;have k:=aE (i:=6) j u6;simp only[dF,cC,ct]at k;exact k
def PN(w:ae)(g:Nat)(u0 u1 u2 u3 u4 u5 u6:ah):aQ [g] w (ev7 w g u0 u1 u2 u3 u4 u5 u6):=(aQ.setCell (aQ.setCell (aQ.setCell (aQ.setCell (aQ.setCell (aQ.setCell (aQ.setCell (aQ.refl [g] w) ⟨g,0,none⟩ (by simp) _) ⟨g,1,none⟩ (by simp) _) ⟨g,2,none⟩ (by simp) _) ⟨g,3,none⟩ (by simp) _) ⟨g,4,none⟩ (by simp) _) ⟨g,5,none⟩ (by simp) _) ⟨g,6,none⟩ (by simp) _)
def PO{e:cO}(h:w.heap[g]? =some (aB e.cells.toArray 33 (0,0))):(loadVar 33 ⟨g,0,none⟩).run prog w=.ok e.vl w:=
 run_loadVar_row w g 33 33 _ (0,0) _ h underlying33 rfl (by kernel_rfl)
def evC(a b d:Int)(w:ae):aj prog 16 #[a,b,d] w λk w'=>k=ax (jX a b d).vl/\ai w w w':=by
 have⟨u,h⟩:=aD (w.alloc (aB #[an ar 0,an ar 0,an ar 0,an ar 0,aA ⟨#[]⟩,an ar 0,an ar 0] 33 (0,0)));have f:ai w w u:=by rw[h];exact(aO _ _).alloc (aP _) _
 have⟨q,j⟩:=aD w.heap.size;have i:u.heap[q]? =some (aB #[an ar 0,an ar 0,an ar 0,an ar 0,aA ⟨#[]⟩,an ar 0,an ar 0] 33 (0,0)):=by rw[h,j];exact a_ _ _
 have⟨s,t,v,y,z,A,B⟩:=qN i;have C:=bB i;have⟨l,m,n,p⟩:=c_ j h (VM i a b d (0:Int) (aA ⟨#[]⟩) (0:Int) (0:Int)) (show ai w w (ev7 u q a b d (0:Int) (aA ⟨#[]⟩) (0:Int) (0:Int))from f.trans ((PN u q a b d (0:Int) (aA ⟨#[]⟩) (0:Int) (0:Int)).below (λx r=>by simp only[cm]at r;omega) f.size));clear h f j i;go_in;go_upto_region 1 with fail
 rw[<-m.o,<-l.o];go_wp2_with fail
 refine fS (w:=ev7 u q a b d (0:Int) (aA ⟨#[]⟩) (0:Int) (0:Int)) (dV rfl rfl (PO (e:=jX a b d) n.o)) rfl ?_;exact⟨rfl,p.o⟩
def agp(s:ByteArray)(k n:Int)(w:ae):aj prog 42 #[aA s,k,n] w λh w'=>h=ax (abT s k n).vl/\ai w w w':=by
 have⟨u,b⟩:=aD (w.alloc (aB #[an ar 0,an ar 0,an ar 0,an ar 0,aA ⟨#[]⟩,an ar 0,an ar 0] 33 (0,0)));have a:ai w w u:=by rw[b];exact(aO _ _).alloc (aP _) _
 have⟨q,f⟩:=aD w.heap.size;have d:u.heap[q]? =some (aB #[an ar 0,an ar 0,an ar 0,an ar 0,aA ⟨#[]⟩,an ar 0,an ar 0] 33 (0,0)):=by rw[b,f];exact a_ _ _
 have⟨r,t,v,y,z,A,B⟩:=qN d;have C:=bB d;have⟨i,j,l,m⟩:=c_ f b (VM d (1:Int) (0:Int) (0:Int) (0:Int) (aA s) k n) (show ai w w (ev7 u q (1:Int) (0:Int) (0:Int) (0:Int) (aA s) k n)from a.trans ((PN u q (1:Int) (0:Int) (0:Int) (0:Int) (aA s) k n).below (λx p=>by simp only[cm]at p;omega) a.size));clear b a f d;go_in;go_upto_region 1 with fail
 rw[<-j.o,<-i.o];go_wp2_with fail
 refine fS (w:=ev7 u q (1:Int) (0:Int) (0:Int) (0:Int) (aA s) k n) (dV rfl rfl (PO (e:=abT s k n) l.o)) rfl ?_;exact⟨rfl,m.o⟩
def KV(w:ae)(g:Nat)(u0 u1 u2 u3 u4 u5 u6 u7 u8 u9 YS Vw:ah):ae:=(World.setCell (World.setCell (World.setCell (World.setCell (World.setCell (World.setCell (World.setCell (World.setCell (World.setCell (World.setCell (World.setCell (World.setCell w ⟨g,0,none⟩ (u0)) ⟨g,1,none⟩ (u1)) ⟨g,2,none⟩ (u2)) ⟨g,3,none⟩ (u3)) ⟨g,4,none⟩ (u4)) ⟨g,5,none⟩ (u5)) ⟨g,6,none⟩ (u6)) ⟨g,7,none⟩ (u7)) ⟨g,8,none⟩ (u8)) ⟨g,9,none⟩ (u9)) ⟨g,10,none⟩ (YS)) ⟨g,11,none⟩ (Vw))
def PQ{w:ae}{s t u v x y z A B C e f:ah}(h:w.heap[g]? =some (aB #[s,t,u,v,x,y,z,A,B,C,e,f] 25 (0,0)))(u0 u1 u2 u3 u4 u5 u6 u7 u8 u9 YS Vw:ah):(KV w g u0 u1 u2 u3 u4 u5 u6 u7 u8 u9 YS Vw).heap[g]? =some (aB #[u0,u1,u2,u3,u4,u5,u6,u7,u8,u9,YS,Vw] 25 (0,0)):=by
 have j:=aE (i:=0) h u0;simp only[dF,cC,ct]at j;have k:=aE (i:=1) j u1;simp only[dF,cC,ct]at k;have l:=aE (i:=2) k u2;simp only[dF,cC,ct]at l;have m:=aE (i:=3) l u3;simp only[dF,cC,ct]at m;have n:=aE (i:=4) m u4;simp only[dF,cC,ct]at n;have o:=aE (i:=5) n u5;simp only[dF,cC,ct]at o;have p:=aE (i:=6) o u6;simp only[dF,cC,ct]at p;have q:=aE (i:=7) p u7;simp only[dF,cC,ct]at q;have r:=aE (i:=8) q u8;simp only[dF,cC,ct]at r;have a:=aE (i:=9) r u9;simp only[dF,cC,ct]at a;have b:=aE (i:=10) a YS;simp only[dF,cC,ct]at b;have d:=aE (i:=11) b Vw;simp only[dF,cC,ct]at d;exact d
def EV(w:ae)(g:Nat)(u0 u1 u2 u3 u4 u5 u6 u7 u8 u9 YS Vw:ah):(KV w g u0 u1 u2 u3 u4 u5 u6 u7 u8 u9 YS Vw).heap.size=w.heap.size:=by
 unfold KV;simp only[YR]
def KW(w:ae)(g:Nat)(u0 u1 u2 u3 u4 u5 u6 u7 u8 u9 YS Vw:ah):aQ [g] w (KV w g u0 u1 u2 u3 u4 u5 u6 u7 u8 u9 YS Vw):=(aQ.setCell (aQ.setCell (aQ.setCell (aQ.setCell (aQ.setCell (aQ.setCell (aQ.setCell (aQ.setCell (aQ.setCell (aQ.setCell (aQ.setCell (aQ.setCell (aQ.refl [g] w) ⟨g,0,none⟩ (by simp) _) ⟨g,1,none⟩ (by simp) _) ⟨g,2,none⟩ (by simp) _) ⟨g,3,none⟩ (by simp) _) ⟨g,4,none⟩ (by simp) _) ⟨g,5,none⟩ (by simp) _) ⟨g,6,none⟩ (by simp) _) ⟨g,7,none⟩ (by simp) _) ⟨g,8,none⟩ (by simp) _) ⟨g,9,none⟩ (by simp) _) ⟨g,10,none⟩ (by simp) _) ⟨g,11,none⟩ (by simp) _)
def PR{n wc o p:Nat}{q r:Option Addr}{c:aV}(k:c.wv=av q n wc)(l:c.cv=av r o p)(h:w.heap[g]? =some (aB c.cells.toArray 25 (0,0))):(loadVar 25 ⟨g,0,none⟩).run prog w=.ok c.val w:=by
 obtain⟨t,u,e,m,a,b,f,i,aS,j,first,s,d,net⟩:=c;simp only at k l;subst k l;exact run_loadVar_row w g 25 25 _ (0,0) _ h underlying25 rfl (by kernel_rfl)
def YT(w:ae):aj prog 43 #[] w λH w'=>∃p r,H=ax (mN p r).val/\(mN p r).ok w'/\(∀a n k,p=av (some a) n k->w.heap.size<=a.block)/\r=av none 0 0/\ai w w w':=by
 have⟨u,m⟩:=aD (w.alloc (aB #[(),(),an ar 0,an ar 0,an ar 0,an ar 0,an ar 0,an ar 0,an ar 0,an ar 0,an ar 0,an ar 0] 25 (0,0)));have b:ai w w u:=by rw[m];exact(aO _ _).alloc (aP _) _
 have⟨q,t⟩:=aD w.heap.size;have j:u.heap[q]? =some (aB #[(),(),an ar 0,an ar 0,an ar 0,an ar 0,an ar 0,an ar 0,an ar 0,an ar 0,an ar 0,an ar 0] 25 (0,0)):=by rw[m,t];exact a_ _ _
 have⟨W,X,Y,Z,r4,r5,r6,r7,r8,r9,I,J⟩:=mD j;have fz:=bB j;have hl:=az j;have⟨h,d⟩:=aD (KV u q (av (some ⟨u,0,none⟩) 3 3) () (1:Int) (1:Int) (1:Int) (2:Int) (5:Int) (9:Int) (2:Int) (4:Int) (0:Int) (8:Int));have B:aQ [q] u h:=by rw[d];exact KW _ _ _ _ _ _ _ _ _ _ _ _ _ _
 have v:h.heap.size=u.heap.size:=by rw[d];exact EV _ _ _ _ _ _ _ _ _ _ _ _ _ _
 have y:h.heap[q]? =some (aB (mN (av (some ⟨u,0,none⟩) 3 3) ()).cells.toArray 25 (0,0)):=by rw[d];exact PQ j _ _ _ _ _ _ _ _ _ _ _ _
 have K:=au (show(h.alloc (aB #[aA ⟨#[97]⟩,aA ⟨#[97,98,99]⟩,aA ⟨#[98]⟩] 9 (0,0))).heap[q]? =some (aB (mN (av (some ⟨u,0,none⟩) 3 3) ()).cells.toArray 25 (0,0))from(fH _ _ _ (az y)).trans y);have C:(h.alloc (aB #[aA ⟨#[97]⟩,aA ⟨#[97,98,99]⟩,aA ⟨#[98]⟩] 9 (0,0))).heap[u.heap.size]? =some (aB #[aA ⟨#[97]⟩,aA ⟨#[97,98,99]⟩,aA ⟨#[98]⟩] 9 (0,0)):=by rw[<-v];exact a_ _ _
 have E:ai w w (h.alloc (aB #[aA ⟨#[97]⟩,aA ⟨#[97,98,99]⟩,aA ⟨#[98]⟩] 9 (0,0))):=(b.trans (B.below (λx L=>by simp only[cm]at L;omega) b.size)).alloc (by rw[v];exact b.size) _;have l:(mN (av (some ⟨u,0,none⟩) 3 3) ()).ok (h.alloc (aB #[aA ⟨#[97]⟩,aA ⟨#[97,98,99]⟩,aA ⟨#[98]⟩] 9 (0,0))):=by
  refine⟨?_,?_,?_,λk M=>(by cases M)⟩
  .have N:Own u 9 1 (h.alloc (aB #[aA ⟨#[97]⟩,aA ⟨#[97,98,99]⟩,aA ⟨#[98]⟩] 9 (0,0))) (av (some ⟨u,0,none⟩) 3 3) [aA ⟨#[97]⟩,aA ⟨#[97,98,99]⟩,aA ⟨#[98]⟩] 3:=⟨rfl,.inr ⟨_,3,_,rfl,aP _,C,aP _,by decide,rfl,rfl⟩⟩
   exact aT.sJ (f:=oR) (xs:=[⟨#[97]⟩,⟨#[97,98,99]⟩,⟨#[98]⟩]) N (λ_=>rfl) (by decide)
  .exact⟨none,0,rfl,bz _,aP _,λi O=>bL O (kG i)⟩
  .intro s F
   simp only[mN,bQ,ez,or_false]at F;rcases F with rfl|rfl|rfl<;>decide
 have⟨z,Q,A,T,U,V⟩:=eC l E b t m d;clear m b t j d B v y C E l;go_in;go_upto_region 1 with fail
 rw[<-U.o,<-T.o];go_wp2_with fail
 have G:=V.o;unfold KV at G;rw[<-G];refine fS (dV rfl rfl (PR (c:=mN (av (some ⟨u,0,none⟩) 3 3) ()) rfl rfl K.o)) rfl ?_;exact⟨_,_,rfl,z.o,λa n k e=>by simp only[bG,bA]at e;rw[<-e.1];exact A.o.size,rfl,Q.o⟩
def gh{P:Program}{w:ae}{d:Nat}{xs ys:Array ah}{f:Field}{e:List Field}{a b:ah}(g:f.name≠ "_")(h:(part f.type xs f.offset).run P w=.ok a w)(i:(part f.type ys f.offset).run P w=.ok b w)
 (j:(Op.equalIn d f.type a b).run P w=.ok true w) (k:(Op.eqFields d xs ys e).run P w=.ok true w):(Op.eqFields d xs ys (f::e)).run P w=.ok true w:=by
 rw[Op.eqFields,aI g];simp only[Sem.run_bind,h,i,j,Result.andThen_ok,Sem.run_ite];simp[k]
def mO(d:Nat)(x:Int)(w:ae):(Op.equalIn (d+1) 3 (x:Int) (x:Int)).run prog w=.ok true w:=by
 rw[run_equalIn_int w _ _ _ _ _ _ underlying3];simp
def NW(d:Nat)(x:ByteArray)(w:ae):(Op.equalIn (d+1) 9 (aA x) (aA x)).run prog w=.ok true w:=by
 rw[run_equalIn_string w _ _ _ _ underlying9];simp
def RZ(x:Int)(y:ByteArray)(w:ae):(Op.equalIn 10000 83 (aG #[(x:Int),aA y]) (aG #[(x:Int),aA y])).run prog w=.ok true w:=by
 have a:prog.underlying 83=some (.struct (prog.fieldsOf 83)):=by kernel_rfl
 show(Op.equalIn (9998+1+1) 83 _ _).run prog w=_
 rw[run_equalIn_struct w _ _ _ _ a (by kernel_rfl)];rw[show prog.fieldsOf 83=_ by unfold Program.fieldsOf;rw[underlying83]];refine gh (by decide) (run_part_plain w (by kernel_rfl) rfl) (run_part_plain w (by kernel_rfl) rfl) (mO _ _ _) ?_;refine gh (by decide) (run_part_plain w (by kernel_rfl) rfl) (run_part_plain w (by kernel_rfl) rfl) (NW _ _ _) ?_;rfl
def VN(x:Int)(y:ByteArray)(w:ae):(binOp .neq 83 (aG #[(x:Int),aA y]) (aG #[(x:Int),aA y])).run prog w=.ok (aw false) w:=by
 rw[run_neq_struct,RZ];rfl
def pZ{q r:ah}{xs:List aY}(F:aT rK 2 w q xs)(G:aT rK 2 w r xs):aj prog 33 #[q,r] w λe w'=>e=ax (aw true)/\ai w w w':=by
 obtain⟨L,M,rfl,s,_,t⟩:=F;obtain⟨O,Q,rfl,u,_,v⟩:=G;unfold maxLen at s u;have⟨N,j⟩:=aD xs.length;have⟨l,m,z⟩:=aX t v j;rw[<-j]at s u⊢;clear t v j;go_in;go_wp2;go_loopw [5] (λi wr=>∃k:Nat,k<=N/\i=an ar k/\ai w w wr) (λi _=>N-(intOf i).toNat)
 case atStart=>exact⟨0,bz _,rfl,aO _ _⟩
 case round=>
  obtain⟨k,T,rfl,a⟩:=hrel;by_cases h:k<N
  .obtain⟨A,B,rfl,f,b⟩:=l.o k (by rw[<-z.o];exact h)
   obtain⟨C,E,rfl,g,d⟩:=m.o k (by rw[<-z.o];exact h);generalize H:xs.getD k ()=x at b d;obtain⟨x,y⟩:=x;have I:=(a.cell (p:=⟨A,B+k*2+0,none⟩) f).trans (b 0 x rfl);have J:=(a.cell (p:=⟨C,E+k*2+0,none⟩) g).trans (d 0 x rfl);have U:=(a.cell (p:=⟨A,B+k*2+1,none⟩) f).trans (b 1 (aA y) rfl);have V:=(a.cell (p:=⟨C,E+k*2+1,none⟩) g).trans (d 1 (aA y) rfl);simp only[bM]at I J;have W:(0:Int)<=(k:Int):=by omega
   have X:(k:Int)<(N:Int):=by omega
   have K:=VN x y;have n:=au a;clear b d H a f g;go_wp2;go_quiet (fail);go_wp2;go_roundw
   case rel=>exact⟨k+1,by omega,by go_num,below_drewN n.o _⟩
   case measure=>simp[intOf];omega
  .have n:=au a
   clear a;go_wp2;go_ret;exact⟨rfl,n.o⟩
def R0(id:Int)(text:ByteArray)(k n:Int)(v:ah)(done akO:Bool):List ah:=[an ar id,aA text,an ar k,an ar n,v,aw done,aw akO]
def rX{B:Nat}{v:ah}{a:List bZ}(h:eM B w v a){k:Nat}(y:k<a.length):∃b o m iv,v=av (some ⟨b,o,none⟩) a.length m/\b<w.heap.size/\(∀j u,(R0 (a[k]).id (a[k]).text (a[k]).k (a[k]).n iv (a[k]).done (a[k]).cancelled)[j]? =some u->w.cell? ⟨b,o+k*7+j,none⟩=some u)/\aT rK 2 w iv (a[k]).items:=by
 obtain⟨i,g,q,z,_,A⟩:=h;have C:i.length=a.length:=by rw[<-q,cr]
 have d:k<i.length:=by omega
 have r:(i[k]).t=a[k]:=by
  have e:(i.map lN.t)[k]? =a[k]? :=by rw[q]
  simpa[y,d]using e
 have⟨b,p,E,H,s,F,G⟩:=z.cell (by decide) k d;rw[C]at s;refine⟨b,p,E,(i[k]).iv,s,F,λj u l=> ?_,?_⟩
 .have x:j<7:=by
   obtain h|h:=Nat.lt_or_ge j 7
   .exact h
   .rw[oz (by simpa[R0]using h)]at l;cases l
  exact(G j u x (by rw[eT (f:=lN.cells) (λ_=>rfl) _ _ _ d x];rw[<-r]at l;exact l)).1
 .have:=(A (i[k]) (eA d)).1
  rw[r]at this;exact aT.gP this (λ_=>rfl) (by decide)
def Bl:(prog.info? 33).map (λi=>(i.zero,i.size,i.bytes))=some (some (aG #[an ar 0,an ar 0,an ar 0,an ar 0,aA ⟨#[]⟩,an ar 0,an ar 0]),7,64):=by kernel_rfl
def VO:List aY:=[(0,⟨#[97]⟩),(1,⟨#[98]⟩)]
def nS(w:ae):aj prog 14 #[] w λe w'=>e=ax (aw true)/\ai w w w':=by
 have⟨J,HA,HS,T⟩:=c_ (show∀(v y U:Int) (w:ae),aj prog 16 #[v,y,U] w λen w'=>en=ax (aG #[an ar v,an ar y,an ar U,an ar 0,aA ⟨#[]⟩,an ar 0,an ar 0])/\ai w w w' from evC) (show∀(s:ByteArray) (k n:Int) (w:ae),aj prog 42 #[aA s,k,n] w λen w'=>en=ax (aG #[an ar 1,an ar 0,an ar 0,an ar 0,aA s,k,n])/\ai w w w' from agp) YT (aO w w);go_in;go_wp2_with fail
 refine(J.o 4 1 0 _).mono ?_;rintro e y1 ⟨rfl,d⟩;have V:=au (T.o.trans (d.mono T.o.size));clear d;go_wp2_with fail
 refine(J.o 5 0 0 _).mono ?_;rintro e y2 ⟨rfl,d⟩;have W:=au (V.o.trans (d.mono V.o.size));clear d;go_wp2_with fail
 refine(J.o 5 0 0 _).mono ?_;rintro e K ⟨rfl,d⟩;have L:=au (W.o.trans (d.mono W.o.size));clear d;have⟨y4,d⟩:=aD (K.alloc (aB #[an ar 4,an ar 1,an ar 0,an ar 0,aA ⟨#[]⟩,an ar 0,an ar 0,an ar 5,an ar 0,an ar 0,an ar 0,aA ⟨#[]⟩,an ar 0,an ar 0,an ar 5,an ar 0,an ar 0,an ar 0,aA ⟨#[]⟩,an ar 0,an ar 0] 33 (0,0)));have⟨HY,X⟩:=aK d (show ai w w y4 by rw[d];exact L.o.alloc L.o.size _);have Y:y4.heap[K.heap.size]? =some (aB #[an ar 4,an ar 1,an ar 0,an ar 0,aA ⟨#[]⟩,an ar 0,an ar 0,an ar 5,an ar 0,an ar 0,an ar 0,aA ⟨#[]⟩,an ar 0,an ar 0,an ar 5,an ar 0,an ar 0,an ar 0,aA ⟨#[]⟩,an ar 0,an ar 0] 33 (0,0)):=by rw[d];exact a_ _ _
 have hY:ai K K y4:=by rw[d];exact(aO _ _).alloc (aP _) _
 clear d hY;have⟨g1,i,gb1⟩:=Own.Cs (show Own K 33 7 y4 (av (some ⟨K,0,none⟩) 3 3) (((tw.take 3).flatMap cO.cells)) 3 from⟨rfl,.inr ⟨_,3,_,rfl,aP _,Y,aP _,by decide,rfl,rfl⟩⟩);have⟨p1,M⟩:=aD K.heap.size;have HP1:=au M;rw[<-M]at i;clear Y M;go_wp2_with fail
 rw[<-HY.o,<-HP1.o];refine(HA.o ⟨#[97]⟩ 1 3 _).mono ?_;rintro e y5 ⟨rfl,d⟩;have Z:=au (X.o.trans (d.mono X.o.size));have i:=i.bH (ch d) (by simp);clear d;go_wp2_with fail
 refine(J.o 4 0 0 _).mono ?_;rintro e y6 ⟨rfl,d⟩;have HB6:=au (Z.o.trans (d.mono Z.o.size));have i:=i.bH (ch d) (by simp);clear d;go_wp2_with fail
 refine(J.o 5 0 0 _).mono ?_;rintro e y7 ⟨rfl,d⟩;have HB7:=au (HB6.o.trans (d.mono HB6.o.size));have i:=i.bH (ch d) (by simp);clear d;go_wp2_with fail
 refine(J.o 4 1 0 _).mono ?_;rintro e y8 ⟨rfl,d⟩;have HB8:=au (HB7.o.trans (d.mono HB7.o.size));have i:=i.bH (ch d) (by simp);clear d;go_wp2_with fail
 refine(J.o 5 0 0 _).mono ?_;rintro e N ⟨rfl,d⟩;have HB9:=au (HB8.o.trans (d.mono HB8.o.size));have i:=i.bH (ch d) (by simp);clear d;have⟨l,d⟩:=aD (N.alloc (aB #[an ar 1,an ar 0,an ar 0,an ar 0,aA ⟨#[97]⟩,an ar 1,an ar 3,an ar 4,an ar 0,an ar 0,an ar 0,aA ⟨#[]⟩,an ar 0,an ar 0,an ar 5,an ar 0,an ar 0,an ar 0,aA ⟨#[]⟩,an ar 0,an ar 0,an ar 4,an ar 1,an ar 0,an ar 0,aA ⟨#[]⟩,an ar 0,an ar 0,an ar 5,an ar 0,an ar 0,an ar 0,aA ⟨#[]⟩,an ar 0,an ar 0] 33 (0,0)));have⟨HY,z⟩:=aK d (show ai w w l by rw[d];exact HB9.o.alloc HB9.o.size _);have hb2:l.heap[N.heap.size]? =some (aB #[an ar 1,an ar 0,an ar 0,an ar 0,aA ⟨#[97]⟩,an ar 1,an ar 3,an ar 4,an ar 0,an ar 0,an ar 0,aA ⟨#[]⟩,an ar 0,an ar 0,an ar 5,an ar 0,an ar 0,an ar 0,aA ⟨#[]⟩,an ar 0,an ar 0,an ar 4,an ar 1,an ar 0,an ar 0,aA ⟨#[]⟩,an ar 0,an ar 0,an ar 5,an ar 0,an ar 0,an ar 0,aA ⟨#[]⟩,an ar 0,an ar 0] 33 (0,0)):=by rw[d];exact a_ _ _
 have hY:ai N N l:=by rw[d];exact(aO _ _).alloc (aP _) _
 have i:=i.bH (ch hY) (by simp);clear d hY;have⟨g2,s2,gb2⟩:=Own.Cs (show Own N 33 7 l (av (some ⟨N,0,none⟩) 5 5) (((tw.drop 3).flatMap cO.cells)) 5 from⟨rfl,.inr ⟨_,5,_,rfl,aP _,hb2,aP _,by decide,rfl,rfl⟩⟩);have⟨p2,O⟩:=aD N.heap.size;have HP2:=au O;rw[<-O]at s2;clear hb2 O;go_wp2_with fail
 rw[<-HY.o,<-HP2.o];have Ml:=au i.lt;refine(HS.o _).mono ?_;rintro e y11 ⟨wv,cv,rfl,p,hwv,hcv,d⟩;have A:=au (z.o.trans (d.mono z.o.size));have i:=i.bH (ch d) (by simp);have s2:=s2.bH (ch d) (by simp);have⟨v',u,g',r1,r2,r3,r4⟩:=i.add 26 underlying26 Bl rfl (by decide) s2 (by decide) (by decide) (by decide);have Zs:=au (show∀b,g1=some b->b<l.heap.size fromλb hb=>Ml.o b hb);have⟨va,vc,hv',_,hvm⟩:=r2.len;subst hv';have C:=A.o.trans (r3.below (λx hx=>by have:=gb1 x (by simpa using hx);have:=L.o.size;omega) A.o.size);have hrd:aT cO.cells 7 u (av va 8 vc) tw:=aT.gP (xs:=tw) r2 (λ_=>rfl) (by decide);have q:(mN wv cv).ok u:=⟨aT.bH p.rw' r3 (λa n k e h=>by have h1:=hwv a n k e;have h2:=(by simpa using h);have h3:=Zs.o _ h2;omega),aT.bH p.rc r3 (λa n k e=>by have e:cv=av (some a) n k:=e;rw[hcv]at e;cases e),p.ws,p.cs⟩;have gN:=au r1;have Zm:=au (NU (mN wv cv) tw (av va 8 vc) u q hrd (by decide) (λe he=>by
  simp only[tw,bQ,ez,or_false]at he;rcases he with rfl|rfl|rfl|rfl|rfl|rfl|rfl|rfl<;>exact⟨eN (by decide) (by decide),by decide⟩))
 have E:=au C;have⟨arp,r⟩:=aD ((mN wv cv).val);rw[<-r]at Zm⊢;clear p q hrd r1 r2 r3 r4 i s2 C r hwv hcv d;go_wp2_with (refine cE (by rfl) (.tmp 18) (.tmp 19) 26 (by rfl) _ _ _ u (by rfl) (by rfl) (gN.o _) ?_);go_wp2_with fail
 refine Zm.m ?_;rintro e g ⟨tv,rv,n,rfl,hp,d⟩;obtain⟨rfl,ht,_⟩:=hp.1 (RY wv cv);rw[NV]at ht;obtain⟨b,o,cap,iv,rfl,tl,tc,ti⟩:=rX ht (k:=0) (by decide);have F:=au (E.o.trans (d.mono E.o.size));have t3:=tc 5 _ rfl;have t2:=tc 4 _ rfl;have ti:aT rK 2 g iv VO:=ti;obtain⟨ia,ic,rfl,_⟩:=id ti;simp only[Nat.zero_mul,bM]at t2 t3;have t3:g.cell? ⟨b,o+5,none⟩=some (aw true):=t3;have t2:g.cell? ⟨b,o+4,none⟩=some (av ia 2 ic):=t2;have⟨Q,j⟩:=aD (g.alloc (aB #[an ar 0,aA ⟨#[97]⟩,an ar 1,aA ⟨#[98]⟩] 83 (0,0)));have t:ai g g Q:=by rw[j];exact(aO _ _).alloc (aP _) _
 have G:Q.heap[g.heap.size]? =some (aB #[an ar 0,aA ⟨#[97]⟩,an ar 1,aA ⟨#[98]⟩] 83 (0,0)):=by rw[j];exact a_ _ _
 have H:aT rK 2 Q (av (some ⟨g,0,none⟩) 2 2) VO:=aT.sJ (B:=g.heap.size) (e:=83) (f:=rK) (xs:=VO) ⟨rfl,.inr ⟨_,2,_,rfl,aP _,G,aP _,by decide,rfl,rfl⟩⟩ (λ_=>rfl) (by decide);have⟨D7,I,akP⟩:=aX (pZ (ti.below t) H) (F.o.trans (t.mono F.o.size)) j;clear ht hp d ti tc H t G j;go_wp2_with fail
 rw[<-akP.o];refine D7.m ?_;rintro e y15 ⟨rfl,d⟩;have akQ:=au (I.o.trans (d.mono I.o.size));clear d;go_wp2;go_ret;exact⟨rfl,akQ.o⟩
variable{z:ae}
def iS(B:Nat)(w:ae)(v:ah)(es:List cO):Prop:=∃g,Seg w 33 7 g v (es.flatMap cO.cells) es.length/\∀b,g=some b->B<=b
def iS.nil(B:Nat)(w:ae):iS B w () []:=⟨none,Seg.nil _ _ _,λb a=>by cases a⟩
def iS.below{v:ah}{es:List cO}(h:iS B w v es)(a:ai w w w'):iS B w' v es:=by
 obtain⟨g,b,d⟩:=h;exact⟨g,b.bH (ch a) (by simp),d⟩
def iS.mono{B':Nat}{v:ah}{es:List cO}(h:iS B w v es)(a:B'<=B):iS B' w v es:=by
 obtain⟨g,d,e⟩:=h;exact⟨g,d,λb f=>bD a (e b f)⟩
def iS.rd{v:ah}{es:List cO}(h:iS B w v es):aT cO.cells 7 w v es:=by
 obtain⟨g,a,_⟩:=h;exact aT.gP a (λ_=>rfl) (by decide)
def abU(es:List cO):∀u∈es.flatMap cO.cells,u.oneCell'=true:=by
 intro u a;simp only[cO.cells,List.mem_flatMap,bQ,ez,or_false]at a;obtain⟨x,_,rfl|rfl|rfl|rfl|rfl|rfl|rfl⟩:=a<;>rfl
def iS.push{v:ah}{es:List cO}(h:iS B w v es)(l:List cO)(o:es.length+l.length<=1000000)(p:B<=w)(q:0<l.length):
 ∃v' w',(∀r,(Builtin.append_ #[26,26] r #[v,av (some ⟨w,0,none⟩) l.length l.length]).run prog (w.alloc (aB (l.flatMap cO.cells).toArray 33 (0,0)))=.ok v' w')/\(∃a n k,v'=av a n k)/\iS B w' v' (es++l)/\ai B w w':=by
 obtain⟨g,s,j⟩:=h;have f:ai w w (w.alloc (aB (l.flatMap cO.cells).toArray 33 (0,0))):=(aO _ _).alloc (aP _) _;have t:=s.bH (ch f) (by simp);have d:∀l:List cO,(l.flatMap cO.cells).length=l.length*7:=λl=>by
  induction l with
  |nil=>rfl
  |cons a l u=>rw[eI,bF,u,cG];simp[cO.cells];omega
 have⟨K,A,C⟩:=Own.Cs (show Own w 33 7 (w.alloc (aB (l.flatMap cO.cells).toArray 33 (0,0))) (av (some ⟨w,0,none⟩) l.length l.length) (l.flatMap cO.cells) l.length from⟨d l,.inr ⟨_,l.length,_,rfl,aP _,a_ _ _,aP _,by unfold maxLen;omega,by simp[d],by show List.take (l.length*7) (l.flatMap cO.cells).toArray.toList=_;rw[<-d l];exact fR⟩⟩);have⟨v',w',E,F,m,G,H⟩:=t.add 26 underlying26 Bl rfl (by decide) A (abU l) o (by decide);have⟨a,k,e,_⟩:=m.len;refine⟨v',w',F,⟨_,_,_,e⟩,⟨E,?_,λb i=> ?_⟩,(f.mono p).trans (G.below (λx I=>j x (by simpa using I)) (by have:=f.size;omega))⟩
 .rw[fQ,bF];exact m
 .obtain e|⟨L,e,J⟩:=H
  .exact j b (by rw[<-e,i])
  .rw[e]at i
   simp only[bA]at i;have:=f.size;omega
def bp(es:List cO)(k o:Int):List cO:=es.filter λe=> !decide (e.kind=k)&& !decide (e.kind=o)
def sE(es:List cO)(e:cO)(k o:Int):bp (es++ [e]) k o=if(!decide (e.kind=k)&& !decide (e.kind=o))=true then bp es k o++ [e]else bp es k o:=by
 unfold bp;rw[List.filter_append];split
 .rename_i h
  simp only[List.filter_cons,h,if_true,List.filter_nil]
 .rename_i h
  simp[List.filter_cons,h]
variable{K:Nat->Prop}{n:Nat}
structure Kp(K:Nat->Prop)(y z:ae):Prop where
 os:z.os=y.os
 tape:z.tape=y.tape
 output:z.output=y.output
 size:y.heap.size<=z.heap.size
 block:∀b,K b->b<y.heap.size->z.heap[b]? =y.heap[b]?
def Kp.refl(K:Nat->Prop)(y:ae):Kp K y y:=⟨rfl,rfl,rfl,aP _,λ_ _ _=>rfl⟩
def Kp.trans{u:ae}(h:Kp K y z)(k:Kp K z u):Kp K y u:=⟨k.os.trans h.os,k.tape.trans h.tape,k.output.trans h.output,bD h.size k.size,λb a d=>(k.block b a (bP d h.size)).trans (h.block b a d)⟩
def Kp.of_below(h:ai y y z)(K:Nat->Prop):Kp K y z:=⟨h.os,h.tape,h.output,h.size,λb _ a=>h.block b a⟩
def Kp.below{B:Nat}(h:Kp K y z)(a:∀b,b<B->K b)(e:B<=y):ai B y z:=⟨h.os,h.tape,h.output,h.size,λb d=>h.block b (a b d) (by omega)⟩
def Kp.less{K':Nat->Prop}(h:Kp K y z)(a:∀b,K' b->K b):Kp K' y z:=⟨h.os,h.tape,h.output,h.size,λb d e=>h.block b (a b d) e⟩
structure rC(c:aV)(xb:Nat)(K:Nat->Prop)(x:di)(rs:List cS)(n:Nat)(y:ae):Prop where
 at':∃br m,lx c br y m x rs/\m.xb=xb/\∀b,K b->br b=.keep
 ok:f_ c n x
 rl:rs.length=n
def rC.below(h:rC c xb K x rs n y)(d:ai y y z):rC c xb (λb=>K b/\b<y∨y.heap.size<=b) x rs n z:=by
 obtain⟨⟨br,m,f,g,i⟩,j,l⟩:=h;refine⟨⟨eP br y .keep,m,f.fr (P:=λ_=>False) (Fr.of_below d _ _ _) (λ_ e=>e.elim),g,λb a=> ?_⟩,j,l⟩;obtain⟨o,p⟩|k:=a
 .exact(dZ p).trans (i b o)
 .exact d_ k
def rC.less{K':Nat->Prop}(h:rC c xb K x rs n y)(a:∀b,K' b->K b):rC c xb K' x rs n y:=by
 obtain⟨⟨br,m,d,e,f⟩,g,i⟩:=h;exact⟨⟨br,m,d,e,λb j=>f b (a b j)⟩,g,i⟩
def LsP(c:aV)(xb:Nat)(K:Nat->Prop)(s:di×cS)(rs:List cS)(n:Nat)(y:ae)(en:ak)(z:ae):Prop:=
 ∃sv lv,en=ax (s.2.vl sv lv)/\(∃a q k,sv=av a q k)/\(∃a q k,lv=av a q k)/\rC c xb K s.1 (rs++ [s.2]) (n+1) z/\Kp K y z/\aT iE 3 z sv s.2.sent/\aT dX 1 z lv s.2.lost
def rC.step(h:rC c xb K x rs n y)(E:n<=4900)(j:∀b,K b->b<y.heap.size)(e:cO)(k:tj e):
 aj prog 24 #[xb,e.vl] y (LsP c xb K (bC c x e) rs n y):=by
 obtain⟨⟨br,m,l,rfl,g⟩,i,o⟩:=h;refine(ZF l i (by omega) (by omega) e k).mono ?_;rintro F z ⟨p,q,rfl,r,s,f,t,u,v,a,⟨G,A,_⟩,H,B,_⟩;refine⟨p,q,rfl,r,s,⟨⟨f,t,u,v,λb d=>(a.old b (j b d)).trans (g b d)⟩,rW i e,by simp[o]⟩,⟨a.os,a.tape,a.output,a.size,λb d C=>a.block b C (by rw[g b d];exact PM _)⟩,aT.gP A (λ_=>rfl) (by decide),aT.gP B (λ_=>rfl) (by decide)⟩
def f_.told{n:Nat}{x:di}(h:f_ c n x):(x.co.told.length:Int)<=24*(n:Int):=by
 have a:=h.co.tl;have b:=h.co.lb;omega
def rC.co(h:rC c xb K x rs n y)(p:n<=5000):∃d,aj prog 29 #[xb] y (λe z=>e=ax (aL (some ⟨d,0,none⟩))/\y=z)/\
 aj prog 30 #[aL (some ⟨d,0,none⟩)] y (λe z=>∃v,e=ax v/\eM y z v x.co.told/\ai y y z)/\
 aj prog 36 #[aL (some ⟨d,0,none⟩)] y (λe z=>e=ax (x.co.tn:Int)/\y=z)/\
 (∀a,aj prog 38 #[aL (some ⟨d,0,none⟩),an ar a] y (λe z=>e=ax (mJ c.workers x.co.L a:Int)/\y=z))/\
 (∀j (i:j<x.co.told.length),aj prog 34 #[aL (some ⟨d,0,none⟩),an ar ((j:Int)+1)] y λe z=>∃v g,e=ax (aM #[xB (x.co.told[j]) v,aw true])/\Seg z 83 2 g v (dT (x.co.told[j]).items) (x.co.told[j]).items.length/\(∀b,g=some b->y.heap.size<=b)/\(∃a q k,v=av a q k)/\ai y y z):=by
 obtain⟨⟨br,m,f,rfl,r⟩,l,s⟩:=h;have u:=l.told;exact⟨m.co.cb,Vy f,afR f.co (by omega) (λt o=>by have:=l.td.ln t o;omega),X7 f.co,λa=>UP f.co a,λj i=>KD f.co j i (by have:=l.td.ln _ (eA i);omega)⟩
def eM.kp{B:Nat}{v:ah}{f:List bZ}(h:eM B y v f)(o:Kp K y z)(p:∀b,B<=b->b<y.heap.size->K b):eM B z v f:=by
 obtain⟨q,g,r,i,j,d⟩:=h;have k:=λb s l=>o.block b (p b s l) l
 exact⟨q,g,r,i.kept λb a=>k b (j b (by simpa using a)) (i.lt b (by simpa using a)),j,λm e=>⟨(d m e).1.kept λb a=>k b ((d m e).2 b (by simpa using a)) ((d m e).1.lt b (by simpa using a)),(d m e).2⟩⟩
def mB(c:aV)(es:List cO):List bZ:=if fX c=true then(bW c es).co.told else []
def gB(c:aV)(es:List cO):List cS:=if fX c=true then iQ c es else []
def Bm(c:aV):Int:=if fX c=true then 0 else 2
def YQ.all{es:List cO}{B:Nat}{a b:ah}{n:Int}(h:YQ c es B w a b n):n=Bm c/\eM B w a (mB c es)/\iF B w b (gB c es):=by
 unfold Bm mB gB;cases hm:fX c
 .have:=h.2 hm;simpa using this
 .have:=h.1 hm;simpa using this
def rD(a:Int):∀(l:List fF) (x:di) (r:cS),(dh c x r a l).2.ev=r.ev
 | [],x,r=>rfl
 |y::l,x,r=>by
  have h:dh c x r a (y::l)=dh c (cF c a (x,r) y).1 (cF c a (x,r) y).2 a l:=rfl;rw[h,rD a l];unfold cF;split<;>rfl
def rY(x:di)(e:cO):(bC c x e).2.ev=e:=by
 unfold bC cM;by_cases b:e.kind=1
 .rw[aI b];exact rD _ _ _ _
 rw[aC b];by_cases d:e.kind=2
 .rw[aI d];exact rD _ _ _ _
 rw[aC d];by_cases f:e.kind=3
 .rw[aI f]
 rw[aC f];by_cases g:e.kind=4
 .rw[aI g]
  by_cases h:0<=e.node/\e.node<=x.ws.length
  .rw[aI h];exact rD _ _ _ _
  .rw[aC h]
 rw[aC g];by_cases i:e.kind=5
 .rw[aI i]
  unfold eE;split
  .simp only
   split
   .rfl
   .split
    .rw[rD]
     split<;>rfl
    .rfl
  .rfl
 rw[aC i];by_cases j:e.kind=6
 .rw[aI j]
  split<;>rfl
 rw[aC j];by_cases k:e.kind=7
 .rw[aI k]
 rw[aC k];by_cases l:e.kind=8
 .rw[aI l]
 rw[aC l];by_cases m:e.kind=9
 .rw[aI m]
 rw[aC m];by_cases a:e.kind=10
 .rw[aI a]
 rw[aC a];split<;>rfl
variable{u:ae}
def rC.VP(h:rC c xb (λb=>b<u.heap.size) x rs n wr)(m:ai u u wr)(s:n<=4900)(l:ai wr wr y)(e:cO)(t:tj e):
 aj prog 24 #[xb,e.vl] y λo z=>∃sa d f g i j,o=ax ((bC c x e).2.vl (av sa d f) (av g i j))/\rC c xb (λb=>b<u.heap.size) (bC c x e).1 (rs++ [(bC c x e).2]) (n+1) z/\ai u u z/\aT iE 3 z (av sa d f) (bC c x e).2.sent/\aT dX 1 z (av g i j) (bC c x e).2.lost/\∀b,wr.heap.size<=b->b<y.heap.size->z.heap[b]? =y.heap[b]? :=by
 have v:=m.size;have A:=(h.below l).less (K':=λb=>b<u.heap.size∨wr.heap.size<=b/\b<y.heap.size) λb a=>by
  obtain k|⟨k,_⟩:=a
  .exact .inl ⟨k,by omega⟩
  .exact .inr k
 refine(A.step s (λb a=>by have:=l.size;omega) e t).mono ?_;rintro o z ⟨G,H,rfl,⟨sa,d,f,rfl⟩,⟨g,i,j,rfl⟩,B,p,C,E⟩;have q:=m.trans (l.mono v);exact⟨sa,d,f,g,i,j,rfl,B.less λb a=>.inl a,q.trans (p.below (λb a=>.inl a) q.size),C,E,λb F r=>p.block b (.inr ⟨F,r⟩) r⟩
def rC.wk{K:Nat->Prop}{xb n:Nat}{x:di}{rs:List cS}(h:rC c xb K x rs n y)(k:Nat)(i:k<x.ws.length):∃bx,aj prog 22 #[xb,an ar ((k+1:Nat):Int)] y λe z=>e=ax (aL (some ⟨bx,0,none⟩))/\ai y y z/\
 aj prog 39 #[aL (some ⟨bx,0,none⟩)] z (λe b=>e=ax (an ar (x.ws.getD k ()).life)/\z=b)/\
 aj prog 40 #[aL (some ⟨bx,0,none⟩)] z (λe b=>e=ax (if(x.ws.getD k ()).up then(x.ws.getD k ()).aW else 0:Int)/\z=b):=by
 obtain⟨⟨br,m,d,rfl,_⟩,_,_⟩:=h;have a:k<m.ws.length:=by have:=d.wl;omega
 refine⟨(m.ws[k]).bx,(vP d k a).mono ?_⟩;rintro e z ⟨rfl,f⟩;have g:=d.fr (P:=λ_=>False) (Fr.eS f _ _) (λ_ e=>e.elim);exact⟨rfl,f,F_ (g.ws k a),YF (g.ws k a)⟩
def EW(c:aV)(xb:Nat)(u:ae)(L:List cO)(y:ae):Prop:=
 rC c xb (λb=>b<u) (bW c L) (iQ c L) L.length y/\ai u u y
def VQ(c:aV)(L:List cO)(e:cO):bW c (L++ [e])=(bC c (bW c L) e).1/\iQ c (L++ [e])=iQ c L++ [(bC c (bW c L) e).2]:=by
 unfold bW iQ;rw[pY];exact⟨rfl,rfl⟩
def EW.ev{xb:Nat}{u:ae}{L:List cO}(h:EW c xb u L y)(n:L.length<=4900){k nd a:Int}(o:ld a):
 aj prog 24 #[xb,aG #[an ar k,an ar nd,an ar a,an ar 0,aA ⟨#[]⟩,an ar 0,an ar 0]] y λl z=>∃(p id:Int) (sa:Option Addr) (b f:Nat) (d:Int) (g:Option Addr) (i j:Nat),l=ax (aG #[an ar k,an ar nd,an ar a,an ar 0,aA ⟨#[]⟩,an ar 0,an ar 0,an ar p,an ar id,av sa b f,an ar d,av g i j])/\
  EW c xb u (L++ [jX k nd a]) z/\b=((iQ c (L++ [jX k nd a])).getD L.length ()).sent.length/\d=((iQ c (L++ [jX k nd a])).getD L.length ()).got:=by
 refine(h.1.VP h.2 n (aO _ _) (jX k nd a) ⟨o,bz _⟩).mono ?_;rintro l z ⟨sa,b,f,g,i,j,rfl,q,r,s,_⟩;have⟨t,m⟩:=VQ c L (jX k nd a);have v:(iQ c L).length=L.length:=by unfold iQ;exact kE _ _ _
 have x:(iQ c (L++ [jX k nd a])).getD L.length ()=(bC c (bW c L) (jX k nd a)).2:=by
  rw[m,<-v];simp[aU]
 have A:b=(bC c (bW c L) (jX k nd a)).2.sent.length:=by
  obtain⟨_,_,e,_⟩:=s;simp only[bG]at e;exact e.2.1
 rw[x];refine⟨(bC c (bW c L) (jX k nd a)).2.verdict,(bC c (bW c L) (jX k nd a)).2.id,sa,b,f,(bC c (bW c L) (jX k nd a)).2.got,g,i,j,?_,⟨?_,r⟩,A,rfl⟩
 .show Ending.returned (qC _ _ _ _ _ _ _ _ _ _ _ _)=_
  rw[rY];rfl
 .rw[t,m,bF]
  exact q
def rE(S:List (Int×Int×Int))(j w:Nat):Int:=((((S.take j).map λt=>(t.2.1,t.2.2)).countP λt=>decide (t=((0:Int),(w:Int))):Nat):Int)
def Bn(F:Nat->Int):Array ah:= #[an ar (F 0),an ar (F 1),an ar (F 2),an ar (F 3),an ar (F 4),an ar (F 5)]
variable{S:List (Int×Int×Int)}
def vS{j:Nat}(a:j<S.length)(w:Nat):rE S (j+1) w=rE S j w+if(((S.getD j ()).2.1,(S.getD j ()).2.2):Int×Int)=(0,(w:Int))then 1 else 0:=by
 have b:S.getD j ()=S[j]:=by simp[aU,a]
 unfold rE;rw[fG a,gF,List.countP_append,b];simp only[gi,List.map_nil,List.countP_singleton,ei];split<;>simp
def VR(F G:Nat->Int){T:Nat}(d:T<=5)(b:G T=F T+1)(a:∀w,w≠T->G w=F w):(Bn F).setIfInBounds T (F T+1:Int)=Bn G:=by
 have:T=0∨T=1∨T=2∨T=3∨T=4∨T=5:=by omega
 obtain rfl|rfl|rfl|rfl|rfl|rfl:=this
 .unfold Bn;rw[b,a 1 (by decide),a 2 (by decide),a 3 (by decide),a 4 (by decide),a 5 (by decide)];rfl
 .unfold Bn;rw[b,a 0 (by decide),a 2 (by decide),a 3 (by decide),a 4 (by decide),a 5 (by decide)];rfl
 .unfold Bn;rw[b,a 0 (by decide),a 1 (by decide),a 3 (by decide),a 4 (by decide),a 5 (by decide)];rfl
 .unfold Bn;rw[b,a 0 (by decide),a 1 (by decide),a 2 (by decide),a 4 (by decide),a 5 (by decide)];rfl
 .unfold Bn;rw[b,a 0 (by decide),a 1 (by decide),a 2 (by decide),a 3 (by decide),a 5 (by decide)];rfl
 .unfold Bn;rw[b,a 0 (by decide),a 1 (by decide),a 2 (by decide),a 3 (by decide),a 4 (by decide)];rfl
def VS(z3:ae)(tb:Nat)(S:List (Int×Int×Int))(j:Nat)(y:ae):Prop:=y.heap[tb]? =some (aB (Bn (rE S j)) 70 (0,0))/\ai z3 z3 y
def VS.set{a y:ae}{tb j T:Nat}(h:VS a tb S j y)(b:a.heap.size<=tb)(d:j<S.length)(f:(S.getD j ()).2.1=0)(g:(S.getD j ()).2.2=(T:Int))(k:T<=5):VS a tb S (j+1) (y.setCell ⟨tb,T,none⟩ (rE S j T+1:Int)):=by
 refine⟨?_,h.2.setCell (p:=⟨tb,T,none⟩) b _⟩;have:=aE (i:=T) h.1 (rE S j T+1:Int);rw[VR (rE S j) (rE S (j+1)) k (by rw[vS d,f,g,aI rfl]) (λw l=>by rw[vS d,f,g,aC (λe=>l (by simp only[Prod.mk.injEq,bK]at e;omega))];omega)]at this;exact this
variable{B:Int}{x x':cB}
structure PS(x:cB):Prop where
 now:x.now=0
 tm:∀i a,x.T i=some a->1<=a
structure EX(x x':cB):Prop where
 now:x'.now=x.now
 tm:∀i a,x'.T i=some a->x.T i=some a
 tn:x'.tn<=x.tn
def EX.refl(x:cB):EX x x:=⟨rfl,λ_ _ h=>h,aP _⟩
def EX.trans{b:cB}(h:EX x x')(k:EX x' b):EX x b:=⟨k.now.trans h.now,λi a e=>h.tm i a (k.tm i a e),bD k.tn h.tn⟩
def PS.less(h:PS x)(k:EX x x'):PS x':=⟨k.now.trans h.now,λi a e=>h.tm i a (k.tm i a e)⟩
variable{z0:ae}{L:List cO}
structure Cz(c:aV)(xb:Nat)(K:Nat->Prop)(z0:ae)(L:List cO)(y:ae):Prop where
 ls:rC c xb K (bW c L) (iQ c L) L.length y
 kp:Kp K z0 y
 kb:∀b,K b->b<z0.heap.size
def Cz.more(h:Cz c xb K z0 L y)(d:ai y y z):Cz c xb (λb=>K b∨y.heap.size<=b/\b<z) z L z:=
 ⟨(h.ls.below d).less λb a=>a.elim (λk=>.inl ⟨k,bP (h.kb b k) h.kp.size⟩) λk=>.inr k.1,Kp.refl _ _,λb a=>a.elim (λk=>bP (h.kb b k) (bD h.kp.size d.size)) λk=>k.2⟩
def Cz.below{B:Nat}(h:Cz c xb K z0 L y)(a:∀b,b<B->K b)(d:B<=z0):ai B z0 y:=h.kp.below a d
def E3(c:aV)(L:List cO)(e:cO):bW c (L++ [e])=(bC c (bW c L) e).1/\iQ c (L++ [e])=iQ c L++ [(bC c (bW c L) e).2]:=by
 unfold bW iQ;rw[pY];exact⟨rfl,rfl⟩
def Cz.VP{d:ae}(h:Cz c xb K z0 L y)(a:ai y y d)(p:L.length<=4900)(e:cO)(q:tj e):
 aj prog 24 #[xb,e.vl] d λl z=>∃sa f g i j k,l=ax ((bC c (bW c L) e).2.vl (av sa f g) (av i j k))/\Cz c xb K z0 (L++ [e]) z/\aT iE 3 z (av sa f g) (bC c (bW c L) e).2.sent/\∀b,y.heap.size<=b->b<d.heap.size->z.heap[b]? =d.heap[b]? :=by
 have m:=h.more a;refine(m.ls.step p m.kb e q).mono ?_;rintro l z ⟨A,B,rfl,⟨sa,f,g,rfl⟩,⟨i,j,k,rfl⟩,r,n,s,C⟩;have⟨t,v⟩:=E3 c L e;refine⟨sa,f,g,i,j,k,rfl,⟨?_,(h.kp.trans (Kp.of_below a K)).trans (n.less λb a=>.inl a),h.kb⟩,s,λb x o=>n.block b (.inr ⟨x,o⟩) o⟩;rw[t,v,bF];exact r.less λb a=>.inl a
def Seg.kp{t:TypeId}{sz:Nat}{g:Option Nat}{v:ah}{xs:List ah}{n:Nat}(h:Seg y t sz g v xs n)(d:Kp K y z)(e:∀b,g=some b->K b):Seg z t sz g v xs n:=
 h.kept λb a=>d.block b (e b (by simpa using a)) (h.lt b (by simpa using a))
def sF(z2:ae)(t:bZ)(g2:Nat)(v:ah)(y:ae):Prop:=
 y.heap[g2]? =some (aB (jT t v).toArray 68 (0,0))/\z2.heap.size<=g2/\(∃ig,Seg y 83 2 ig v (dT t.items) t.items.length/\∀b,ig=some b->z2.heap.size<=b)/\ai z2 z2 y
def sF.of{d e:ae}{t:bZ}{v:ah}{g:Option Nat}{k l m n o p q:ah}(h:e.heap[d.heap.size]? =some (aB #[k,l,m,n,o,p,q] 68 (0,0)))(f:ai d d e)(r:Seg e 83 2 g v (dT t.items) t.items.length)(i:∀b,g=some b->d.heap.size<b):sF d t d v (qA e d t v):=by
 have j:=vM e d t v;exact⟨vL h t v,aP _,⟨g,r.bH j (λb a=>by have:=i b (by simpa using a);simp;omega),λb a=>lH (i b a)⟩,f.trans (j.below (λb a=>by simp only[cm]at a;omega) f.size)⟩
structure VT(w:gL):Prop where
 ep:OR w.aW=true
 gr:∀s∈w.QU,∀ns,s.g=some ns->Kf ns
def E4(x:di):Prop:=∀i,i<x.ws.length->VT (x.ws.getD i ())
def E4.set{x:di}(h:E4 x)(k:Nat){v:gL}(a:VT v):E4 {x with ws:=x.ws.set k v}:=λi hi=>by
 simp only[ds]at hi;simp only[aU,iW];by_cases e:k=i
 .subst e
  simpa[hi]using a
 .rw[aC e]
  have:=h i hi;simpa only[aU]using this
def E4.upd{x:di}(h:E4 x)(i:Int)(f:gL->gL)(a:∀w,VT w->VT (f w)):E4 (x.upd i f):=by
 obtain⟨e,_⟩|⟨k,b,_,e⟩:=lR x i f
 .rw[e];exact h
 .rw[e];exact h.set k (a _ (h k b))
def E4.same{x x':di}(h:E4 x)(e:x'.ws=x.ws):E4 x':=by unfold E4;rw[e];exact h
def ox(a b:List bZ):Prop:=a.length<=b.length/\∀k,k<a.length->(b.getD k ()).items=(a.getD k ()).items/\(b.getD k ()).done=(a.getD k ()).done
def ox.refl(a:List bZ):ox a a:=⟨aP _,λ_ _=>⟨rfl,rfl⟩⟩
def ox.of{a b:List bZ}(h:b=a):ox a b:=h▸.refl a
def ox.trans{a b d:List bZ}(h:ox a b)(k:ox b d):ox a d:=
 ⟨bD h.1 k.1,λj e=>by
  have⟨f,g⟩:=h.2 j e;have⟨i,l⟩:=k.2 j (bP e h.1);exact⟨i.trans f,l.trans g⟩⟩
structure SG(x:di):Prop where
 dn:∀i,i<x.ws.length->(x.ws.getD i ()).up=false
 nt:∀g∈x.net,1<=g.tO
def SG.upd{x:di}(h:SG x)(i:Int)(f:gL->gL)(g:∀w,w.up=false->(f w).up=false):SG (x.upd i f):=by
 obtain⟨e,_⟩|⟨k,a,_,e⟩:=lR x i f
 .rw[e];exact h
 .rw[e]
  refine⟨λj b=> ?_,h.nt⟩;simp only[ds]at b;simp only[aU,iW];by_cases d:k=j
  .subst d
   have:=h.dn k a;simp only[aU]at this;simp only[a,if_true,Option.getD_some];exact g _ this
  .rw[aC d]
   have:=h.dn j b;simpa only[aU]using this
end Go.Proofs.YtjpnlfpompnpkaaGreat

