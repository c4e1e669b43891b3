import Derived.Deep.LoopGhost
import Derived.Test.YtjpnlfpompnpkaaGreatP11
import Derived.Test.YtjpnlfpompnpkaaGreatP14
namespace Go.Proofs.YtjpnlfpompnpkaaGreat
open Go.RowKit Go.Proofs.Tryz
open Go.Value renaming int->an,slice->av,bool->aw,string->aA,tuple->aM,pointer->aL,agg->aG
open Go.IntKind renaming i64->ar
open Go.Ending renaming returned->ax
open Go.Obj renaming cells->aB
open Go renaming World->ae,Value->ah,Calls->aj,Ending->ak
open Go.RowKit renaming Below->ai
set_option maxRecDepth 100000
set_option linter.all false
set_option maxHeartbeats 4000000
open mX
def Q7(ns:List gO):Nat->Nat->Prop
 |0,_=>False
 |f+1,n=>∀e∈(ns.getD n ()).bO,Q7 ns f e.2.toNat
def A7(ns:List gO):Nat->Nat->er->List er
 |0,_,_=> []
 |f+1,n,a=>(if(ns.getD n ()).fin=true then [a]else [])++(ns.getD n ()).bO.flatMap λe=>A7 ns f e.2.toNat (a++eR e.1)
def Mj(ns:List gO):Nat->Nat->Nat
 |0,_=>1
 |f+1,n=>1+((ns.getD n ()).bO.map λe=>Mj ns f e.2.toNat).sum
def No{f:Bool×List er->Nat->er->Bool×List er}{g:Nat->er->List er}{P:Nat->Prop}{a:er}
 (d:∀s n b,(f s n b).1=true->s.1=true/\P n/\(f s n b).2=s.2++g n b):
 ∀(l:List eY) (s:Bool×List er),(o9 f a s l).1=true->s.1=true/\(∀e∈l,P e.2.toNat)/\(o9 f a s l).2=s.2++l.flatMap λe=>g e.2.toNat (a++eR e.1):=by
 intro l
 induction l with
 |nil=>intro s h;simpa[o9]using h
 |cons e l i=>
  intro s h;rw[o9]at h⊢;have⟨j,k,m⟩:=i _ h;have⟨o,p,q⟩:=d _ _ _ j;refine⟨o,λx c=> ?_,?_⟩
  .obtain rfl|c:=List.mem_cons.1 c
   .exact p
   .exact k x c
  .rw[m,q,eI,h_]
def Q8(ns:List gO):∀(f:Nat) (s:Bool×List er) (n:Nat) (a:er),(gU ns f s n a).1=true->s.1=true/\Q7 ns f n/\(gU ns f s n a).2=s.2++A7 ns f n a:=by
 intro f
 induction f with
 |zero=>intro s n a h;simp[gU]at h
 |succ f d=>
  intro s n a h;unfold gU at h⊢;split at h
  .simp at h
  .rename_i c
   rw[aC c];have⟨i,e,g⟩:=No d _ _ h;have b:s.1=true:=by
    cases b:s.1
    .exact bL (.inl b) c
    .rfl
   refine⟨b,e,?_⟩;rw[g]
   conv=>rhs;rw[A7]
   cases(ns.getD n ()).fin<;>simp
theorem Np{a:Type}[Inhabited a]{xs ys:List a}(c:xs.length=ys.length)(h:∀i,i<xs.length->xs.getD i ()=ys.getD i ()):xs=ys:=by
 apply List.ext_getElem c;intro i b d;have:=h i b;simpa[aU,b,d]using this
def Yc{a b:gO}(h:sT a b=true):a=b:=by
 unfold sT at h;simp only[cV,beq_iff_eq]at h;obtain⟨x,y⟩:=a;obtain⟨u,v⟩:=b;simp only at h;rw[h.1,h.2]
def Pr{xs ys:List gO}(h:nL xs ys=true):xs=ys:=by
 unfold nL at h;simp only[cV,ei,pC,List.mem_range]at h;exact Np h.1 λi a=>Yc (h.2 i a)
structure Kf(ns:List gO):Prop where
 made:jP ns=true
 same:eO (jn ns).1=ns
 good:fx (jF ns)=0
 pos:0<ns.length
 le:ns.length<=721
 tg:∀m∈ns,∀e∈m.bO,1<=e.2/\e.2<ns.length
 dep:Q7 ns 13 0
 enum:(jn ns).1=A7 ns 13 0 []
 el:∀m∈ns,m.bO.length<=60
def Kf.of{ns:List gO}(h:jP ns=true):Kf ns:=by
 have f:=h;unfold jP at h;simp only[cV,ei]at h;obtain⟨⟨⟨⟨⟨g,i,j⟩,_⟩,a⟩,k⟩,d⟩:=h;have l:(gU ns 13 (true,[]) 0 []).1=true:=by
  unfold jn at a;simp only[cV]at a;exact a.1
 have⟨_,n,o⟩:=Q8 ns 13 (true,[]) 0 [] l;have c:(jn ns).1.length<=60:=by
  unfold jn at a;simp only[cV,ei]at a;exact a.2
 refine⟨f,Pr d,k,i,j,λm b e p=> ?_,n,?_,λm b=> ?_⟩
 .have:=List.all_eq_true.1 (List.all_eq_true.1 g m b) e p
  simp[sW]at this;omega
 .unfold jn
  simpa using o
 .rw[<-Pr d]at b
  exact bD (Ep _ m b) c
def Ew{bs:List Int}{ns:List gO}(h:(iz bs).1=some ns):Kf ns:=by
 unfold iz at h;split at h
 .cases h
 split at h
 .cases h
 split at h
 .cases h
 split at h
 .cases h
 split at h
 .rename_i b
  simp only[bA]at h;have a:=Kf.of b;have:=a.same;rw[this]at h;rw[<-h];exact a
 .cases h
def Kg(ns:List gO)(q:List Int)(d:Int):∀(f n:Nat) (p:List Int) (a:er),(mU ns q d f n p a).Sublist (A7 ns f n a):=by
 intro f
 induction f with
 |zero=>intro n p a;exact List.Sublist.refl _
 |succ f h=>
  intro n p a;unfold mU A7;refine List.Sublist.append ?_ ?_
  .by_cases b:(ns.getD n ()).fin=true
   .rw[aI b]
    split
    .exact List.Sublist.refl _
    .exact List.nil_sublist _
   .rw[aC b,aC (λe=>b e.1)]
    exact List.Sublist.refl _
  .generalize(ns.getD n ()).bO=g
   induction g with
   |nil=>exact List.Sublist.refl _
   |cons e g c=>
    rw[eI,eI];refine List.Sublist.append ?_ c;split
    .exact List.nil_sublist _
    .exact h _ _ _
section
open Go.ChangeMaps mX
structure uw(w:ae)(bd bf ba bl bb bm:Nat)(d:Int)(first:Bool)(after:aY)(batch:Nat)(s:lu)(lg:Option Nat)(lv:ah):Prop where
 d:w.heap[bd]? =some (aB #[an ar d] 3 (0,0))
 f:w.heap[bf]? =some (aB #[aw first] 4 (0,0))
 a:w.heap[ba]? =some (aB #[an ar after.1,aA after.2] 83 (0,0))
 l:w.heap[bl]? =some (aB #[lv] 66 (0,0))
 b:w.heap[bb]? =some (aB #[an ar batch] 3 (0,0))
 m:w.heap[bm]? =some (aB #[aw s.more] 4 (0,0))
 ls:Seg w 83 2 lg lv (dT s.l) s.l.length
 o1:bf<ba
 o2:ba<bb
 o3:bb<bl
 o4:bl<bm
 o5:bm<bd
 g:∀x,lg=some x->bm<x/\x≠bd
 n:s.l.length<=batch
 nb:batch<=1000
variable{w w':ae}{bd bf ba bl bb bm:Nat}{d:Int}{first:Bool}{after:aY}{batch:Nat}{s:lu}{lg:Option Nat}{lv:ah}
def uw.bH(h:uw w bd bf ba bl bb bm d first after batch s lg lv){S:List Nat}(c:aQ S w w')(i:∀x∈S,x≠bd/\x≠bf/\x≠ba/\x≠bl/\x≠bb/\x≠bm/\lg≠some x):uw w' bd bf ba bl bb bm d first after batch s lg lv:=
 ⟨c.at h.d λe=>(i _ e).1 rfl,c.at h.f λe=>(i _ e).2.1 rfl,c.at h.a λe=>(i _ e).2.2.1 rfl,c.at h.l λe=>(i _ e).2.2.2.1 rfl,c.at h.b λe=>(i _ e).2.2.2.2.1 rfl,c.at h.m λe=>(i _ e).2.2.2.2.2.1 rfl,h.ls.bH c λx j e=>(i x e).2.2.2.2.2.2 j,h.o1,h.o2,h.o3,h.o4,h.o5,h.g,h.n,h.nb⟩
def rq(bd bf ba bl bb bm:Nat)(d:Int)(first:Bool)(after:aY)(batch:Nat)(s':lu)(lg:Option Nat)(w:ae)(e:ak)(w':ae):Prop:=
 ∃lg' lv',e=ax (aw (!s'.more))/\uw w' bd bf ba bl bb bm d first after batch s' lg' lv'/\aQ (bl::bm::lg.toList) w w'/\∀x,lg'=some x->lg=some x∨w.heap.size<=x
def uw.push(h:uw w bd bf ba bl bb bm d first after batch s lg lv)(x:aY)(M:s.l.length+1<=batch):
 ∃n o t j,(∀B,(Builtin.append_ #[66,66] B #[lv,av (some ⟨w,0,none⟩) 1 1]).run prog (w.alloc (aB #[an ar x.1,aA x.2] 83 (0,0)))=.ok (av n (s.l.length+1) o) t)/\t.heap[bl]? =some (aB #[lv] 66 (0,0))/\t.heap[bm]? =some (aB #[aw s.more] 4 (0,0))/\
  uw (t.setCell ⟨bl,0,none⟩ (av n (s.l.length+1) o)) bd bf ba bl bb bm d first after batch ⟨s.l++ [x],s.more⟩ j (av n (s.l.length+1) o)/\aQ (bl::bm::lg.toList) w (t.setCell ⟨bl,0,none⟩ (av n (s.l.length+1) o))/\∀x,j=some x->lg=some x∨w.heap.size<=x:=by
 have N:=h.nb;have⟨n,o,t,j,r,C,q,E⟩:=h.ls.JU x (by omega);have F:=h.o1;have G:=h.o2;have H:=h.o3;have I:=h.o4;have J:=h.o5;have k:∀y,y<=bm∨y=bd->y∉lg.toList:=λy K e=>by have:=h.g y (by simpa using e);omega
 have c:aQ [bl] t (t.setCell ⟨bl,0,none⟩ (av n (s.l.length+1) o)):=(aQ.refl _ _).setCell _ (by simp) _;have u:=q.at h.l (k _ (by omega));have v:=q.at h.m (k _ (by omega));have z:∀x,j=some x->lg=some x∨w.heap.size<=x:=λx p=>by
  obtain e|⟨y,e,K⟩:=E
  .exact .inl (by rw[<-e,p])
  .rw[p]at e
   simp only[bA]at e;exact .inr (by omega)
 have L:=az h.d;have A:∀x,j=some x->bm<x/\x≠bd:=λx p=>by
  obtain e|e:=z x p
  .exact h.g x e
  .omega
 refine⟨n,o,t,j,r,u,v,⟨c.at (q.at h.d (k _ (by omega))) (by simp;omega),c.at (q.at h.f (k _ (by omega))) (by simp;omega),c.at (q.at h.a (k _ (by omega))) (by simp;omega),by simpa using aE (i:=0) u (av n (s.l.length+1) o),c.at (q.at h.b (k _ (by omega))) (by simp;omega),c.at v (by simp;omega),C.bH c (λx p=>by have:=A x p;simp;omega),F,G,H,I,J,A,by simp only[bF,cG,dx];omega,h.nb⟩,?_,z⟩;exact(q.mono (λx p=>by simp only[bQ];exact .inr (.inr p))).trans (c.mono (by simp))
def Kh(h:s.more=false)(b:first=false){a:er}(c:cR after (d,⟨a.toArray⟩)=false):lu.add first after batch d s a=s:=by
 unfold lu.add;simp[h,b,c]
def Ki(h:s.more=false){a:er}(b:first=true∨cR after (d,⟨a.toArray⟩)=true)(c:s.l.length=batch):lu.add first after batch d s a=⟨s.l,true⟩:=by
 unfold lu.add;rcases b with b|b<;>simp[h,b,c]
def Kj(h:s.more=false){a:er}(b:first=true∨cR after (d,⟨a.toArray⟩)=true)(c:s.l.length≠batch):lu.add first after batch d s a=⟨s.l++ [(d,⟨a.toArray⟩)],false⟩:=by
 unfold lu.add;rcases b with b|b<;>simp[h,b,c]
def aa8(h:uw w bd bf ba bl bb bm d first after batch s lg lv)(F:s.more=false)(c:er):
 aj prog 230 #[aA ⟨c.toArray⟩,bd,bf,ba,bl,bb,bm] w (rq bd bf ba bl bb bm d first after batch (lu.add first after batch d s c) lg w):=by
 have⟨u,hu⟩:=aD (w.alloc (aB #[d,aA ⟨c.toArray⟩] 83 (0,0)));have⟨n1,P,n3⟩:=dt hu;have hi:=h.bH P (by simp);have⟨Z,HL⟩:=aK hi (λy=>oT after.1 d after.2 ⟨c.toArray⟩ y);have⟨V,q⟩:=aD (cR after (d,⟨c.toArray⟩));have e:cR (after.1,after.2) (d,⟨c.toArray⟩)=V:=q.symm;rw[e]at HL;obtain⟨la,lc,rfl,_,W⟩:=h.ls.len;unfold maxLen at W;have M:=au (show∀y,first=false->V=false->ai u u y->rq bd bf ba bl bb bm d first after batch (lu.add first after batch d s c) lg w (ax (aw true)) y fromλy A j k=>
  ⟨lg,_,by rw[Kh F A (by rw[<-q];exact j),F];rfl,by rw[Kh F A (by rw[<-q];exact j)];exact Z.o.bH (ch k) (by simp),((P.trans (aQ.of_below k)).mono (by simp)),λx N=>.inl N⟩)
 have r:=au (show∀y,(first=true∨V=true)->s.l.length=batch->ai u u y->rq bd bf ba bl bb bm d first after batch (lu.add first after batch d s c) lg w (ax (aw false)) (y.setCell ⟨bm,0,none⟩ (aw true))fromλy A j k=>by
  have p:=Z.o.bH (ch k) (by simp);have o1:=h.o1;have o2:=h.o2;have o3:=h.o3;have o4:=h.o4;have o5:=h.o5;have v:aQ [bm] y (y.setCell ⟨bm,0,none⟩ (aw true)):=(aQ.refl _ _).setCell _ (by simp) _;refine⟨lg,av la s.l.length lc,by rw[Ki F (by rw[<-q];exact A) j];rfl,?_,((P.trans (aQ.of_below k)).mono (by simp)).trans (v.mono (by simp)),λx N=>.inl N⟩;rw[Ki F (by rw[<-q];exact A) j];exact⟨v.at p.d (by simp;omega),v.at p.f (by simp;omega),v.at p.a (by simp;omega),v.at p.l (by simp;omega),v.at p.b (by simp;omega),by simpa using aE (i:=0) p.m (aw true),p.ls.bH v (λx N=>by have:=h.g x N;simp;omega),o1,o2,o3,o4,o5,h.g,h.n,h.nb⟩)
 have z:=au (show∀y,(first=true∨V=true)->s.l.length≠batch->ai u u y->∃T U t B,(∀ty,(Builtin.append_ #[66,66] ty #[av la s.l.length lc,av (some ⟨y,0,none⟩) 1 1]).run prog (y.alloc (aB #[d,aA ⟨c.toArray⟩] 83 (0,0)))=.ok (av T (s.l.length+1) U) t)/\t.heap[bl]? =some (aB #[av la s.l.length lc] 66 (0,0))/\t.heap[bm]? =some (aB #[aw false] 4 (0,0))/\bl≠bm/\
  rq bd bf ba bl bb bm d first after batch (lu.add first after batch d s c) lg w (ax (aw true)) (t.setCell ⟨bl,0,none⟩ (av T (s.l.length+1) U))fromλy A j k=>by
  have p:=Z.o.bH (ch k) (by simp);have hnn:=h.n;have⟨T,U,t,B,O,K,G,L,H,k6⟩:=p.push (d,⟨c.toArray⟩) (by omega);rw[F]at G L;have o4:=h.o4;refine⟨T,U,t,B,O,K,G,by omega,B,_,by rw[Kj F (by rw[<-q];exact A) j];rfl,by rw[Kj F (by rw[<-q];exact A) j];exact L,((P.trans (aQ.of_below k)).mono (by simp)).trans H,λx N=> ?_⟩;obtain e|e:=k6 x N
  .exact .inl e
  .exact .inr (bD (P.trans (aQ.of_below k)).size e))
 generalize rq bd bf ba bl bb bm d first after batch (lu.add first after batch d s c) lg w=Q at*
 have HC:=au (show∀y,ai u u y->y.cell? bf=some (aw first)/\y.cell? ba=(after.1:Int)/\y.cell? ⟨ba,1,none⟩=some (aA after.2)/\y.cell? bl=some (av la s.l.length lc)/\y.cell? bb=(batch:Int)/\y.cell? bm=some (aw false)/\y.cell? w.heap.size=d/\y.cell? ⟨w,1,none⟩=some (aA ⟨c.toArray⟩)/\y.frozen? ⟨bm,0,none⟩=false/\y.frozen? ⟨bl,0,none⟩=false/\bf<y/\ba<y/\bl<y/\bb<y/\bm<y/\w.heap.size<y.heap.size fromλy k=>by
  have j:=Z.o.bH (ch k) (by simp);have I:=(ch k).at n1 (by simp);have O:=j.f;have K:=j.a;have G:=j.l;have L:=j.b;have H:=j.m;rw[F]at H;exact⟨aF O _ rfl,aF K _ rfl,aF K _ rfl,aF G _ rfl,aF L _ rfl,aF H _ rfl,aF I _ rfl,aF I _ rfl,bB H _,bB G _,az O,az K,az G,az L,az H,az I⟩)
 have hd:=h.d;have e0:=aF hd 0 rfl;have HU:=au hu;obtain⟨a1,a2⟩:=after;obtain⟨sl,sm⟩:=s;simp only at HL HC F W r z;generalize sl.length=n at*;generalize(⟨c.toArray⟩:ByteArray)=c at*;clear h hu n1 P hi q e hd;cases first
 .have⟨O,K,G,L,H,k6,k7,k8,k9,X,j1,j2,j3,j4,j5,j6⟩:=HC.o u (aO _ _)
  go_in;go_upto_region 3 with fail
  rw[<-HU.o];go_wp2_with fail
  refine aN (HL.o u) ?_;intro y k;have⟨O,K,G,L,H,k6,k7,k8,k9,X,j1,j2,j3,j4,j5,j6⟩:=HC.o y k;cases V
  .have J:=au (M.o y (by trivial) (by trivial) k)
   clear k;go_wp2;exact J.o
  .by_cases C:n=batch
   .have q1:((n:Int)==(batch:Int))=true:=by simp[C]
    have J:=au (r.o y (.inr (by trivial)) C k);clear C k;go_wp2;exact J.o
   .have q1:((n:Int)==(batch:Int))=false:=by rw[j7];omega
    have⟨T,U,t,B,A,j,I,h4,Y⟩:=z.o y (.inr (by trivial)) C k;have⟨E,J⟩:=aK A Y;have t1:=aF j 0 rfl;have t2:=bB j 0;have t3:=aF I 0 rfl;have h4':bm≠bl:=λe=>h4 e.symm
    clear C A j I Y k;go_wp2_with (refine cE (by rfl) (.tmp 13) (.tmp 15) 66 (by rfl) _ _ _ t (by rfl) (by rfl) (E.o _) ?_);exact J.o
 .have⟨O,K,G,L,H,k6,k7,k8,k9,X,j1,j2,j3,j4,j5,j6⟩:=HC.o u (aO _ _)
  go_in;go_upto_region 3 with fail
  rw[<-HU.o];by_cases C:n=batch
  .have q1:((n:Int)==(batch:Int))=true:=by simp[C]
   have J:=au (r.o u (.inl (by trivial)) C (aO _ _));clear C;go_wp2;exact J.o
  .have q1:((n:Int)==(batch:Int))=false:=by rw[j7];omega
   have⟨T,U,t,B,A,j,I,h4,Y⟩:=z.o u (.inl (by trivial)) C (aO _ _);have⟨E,J⟩:=aK A Y;have t1:=aF j 0 rfl;have t2:=bB j 0;have t3:=aF I 0 rfl;have h4':bm≠bl:=λe=>h4 e.symm
   clear C A j I Y;go_wp2_with (refine cE (by rfl) (.tmp 13) (.tmp 15) 66 (by rfl) _ _ _ t (by rfl) (by rfl) (E.o _) ?_);exact J.o
end
section
open Go.ChangeMaps mX
structure lQ where
 n:Nat
 f:Nat
 p:List Int
 a:er
 sv:ah
 sb:Option Nat
instance:Inhabited lQ:=⟨⟨0,0,[],[],.slice none 0 0,none⟩⟩
def lQ.cells(e:lQ):List ah:=[an ar e.n,e.sv,aA ⟨e.a.toArray⟩]
def xR(E:List lQ):List ah:=E.flatMap lQ.cells
def Ex(ns:List gO)(q:List Int)(d:Int)(E:List lQ):List er:=E.reverse.flatMap λe=>mU ns q d e.f e.n e.p e.a
def Kk(ns:List gO)(E:List lQ):Nat:=(E.map λe=>Mj ns e.f e.n).sum
def vD(E:List lQ)(e:lQ):xR (E++ [e])=xR E++e.cells:=by simp[xR]
def A8(ns:List gO)(q:List Int)(d:Int)(E:List lQ)(e:lQ):Ex ns q d (E++ [e])=mU ns q d e.f e.n e.p e.a++Ex ns q d E:=by simp[Ex]
def A9(ns:List gO)(E:List lQ)(e:lQ):Kk ns (E++ [e])=Kk ns E+Mj ns e.f e.n:=by simp[Kk]
structure Zv(ns:List gO)(e:lQ):Prop where
 dep:Q7 ns e.f e.n
 nl:e.n<ns.length
 al:e.a.length+4*e.f<=1000
 f13:e.f<=13
structure kF(w:ae)(bd bf ba bl bb bm:Nat)(Cy:Option Nat)(d:Int)(first:Bool)(after:aY)(batch:Nat)(ns:List gO)(q:List Int)(FIN:lu)(J:List er)(K gk:Nat)(s:lu)(X:List lQ)(Z:Option Nat)(E:List lQ)(v:ah)(wr:ae)where
 lg:Option Nat
 lv:ah
 sg:Option Nat
 y:uw wr bd bf ba bl bb bm d first after batch s lg lv
 st:Seg wr 384 3 sg v (xR E) E.length
 r:∀e∈E++X,Seg wr 390 2 e.sb e.sv (eQ (qD.S q e.p d)) (qD.S q e.p d).length
 ok:∀e∈E,Zv ns e
 ix:∀i,i<E.length->i<60*(14-(E.getD i ()).f)
 g1:∀x,sg=some x->w.heap.size<=x/\lg≠some x
 z:∀x,Z=some x->sg≠some x/\x<wr.heap.size
 g2:∀e∈E++X,∀x,e.sb=some x->w.heap.size<=x/\sg≠some x/\lg≠some x
 c:aQ (bl::bm::Cy.toList) w wr
 l:∀x,lg=some x->Cy=some x∨w.heap.size<=x
 fin:(J++Ex ns q d E).foldl (lu.add first after batch d) s=FIN
 k:Kk ns E+K<=gk
variable{w wr y z:ae}{bd bf ba bl bb bm:Nat}{Cy:Option Nat}{d:Int}{first:Bool}{after:aY}{batch:Nat}{ns:List gO}{q:List Int}{FIN s:lu}{J:List er}{K gk:Nat}{X:List lQ}{Z:Option Nat}{E:List lQ}{v:ah}
theorem kF.below(h:kF w bd bf ba bl bb bm Cy d first after batch ns q FIN J K gk s X Z E v wr)(a:aQ ([]:List Nat) wr y):Nonempty (kF w bd bf ba bl bb bm Cy d first after batch ns q FIN J K gk s X Z E v y):=
 ⟨⟨h.lg,h.lv,h.sg,h.y.bH a (by simp),h.st.bH a (by simp),λe f=>(h.r e f).bH a (by simp),h.ok,h.ix,h.g1,λx b=>⟨(h.z x b).1,bP (h.z x b).2 a.size⟩,h.g2,h.c.trans (a.mono (by simp)),h.l,h.fin,h.k⟩⟩
def kF.len(h:kF w bd bf ba bl bb bm Cy d first after batch ns q FIN J K gk s X Z E v wr):E.length<=840:=by
 by_cases a:E.length=0
 .omega
 .have:=h.ix (E.length-1) (by omega)
  have b:60*(14-(E.getD (E.length-1) ()).f)<=60*14:=Nat.mul_le_mul_left _ (Nat.sub_le _ _);omega
theorem kF.pop{e:lQ}{sa:Option Addr}{m:Nat}(h:kF w bd bf ba bl bb bm Cy d first after batch ns q FIN [] 0 gk s [] none (E++ [e]) (av sa (E.length+1) m) wr):
 ∃f B,e.f=f+1/\B<gk/\Nonempty (kF w bd bf ba bl bb bm Cy d first after batch ns q FIN (mU ns q d (f+1) e.n e.p e.a) ((ns.getD e.n ()).bO.map λx=>Mj ns f x.2.toNat).sum B s [e] none E (av sa E.length m) wr)/\E.length<60*(13-f)/\Q7 ns (f+1) e.n/\e.n<ns.length/\e.a.length+4*(f+1)<=1000/\f+1<=13:=by
 obtain⟨lg,lv,H,yk,I,r,U,V,g1,hz,g2,c,l,C,k⟩:=h;have o:=U e (by simp);have g:=o.dep;obtain⟨f,u⟩:∃f,e.f=f+1:=by
  cases u:e.f with
  |zero=>rw[u]at g;exact g.elim
  |succ f=>exact⟨f,rfl⟩
 have A:=V E.length (by simp);have L:(E++ [e]).getD E.length ()=e:=by simp[aU]
 rw[L,u]at A;rw[A9,u]at k;have hw:Mj ns (f+1) e.n=1+((ns.getD e.n ()).bO.map λx=>Mj ns f x.2.toNat).sum:=rfl;rw[hw]at k;rw[List.nil_append,A8,u]at C;have t:(E++ [e]).length=E.length+1:=by simp
 rw[t,vD]at I;have M:e.cells.length=3:=rfl;obtain⟨W,F⟩:∃W,H=some W:=by
  have⟨b,_,_,hb,_⟩:=I.cell (by decide) 0 (by omega);exact⟨b,hb⟩
 have N:Seg wr 384 3 H (av sa E.length m) (xR E) E.length:=by
  obtain⟨hl,⟨h0,_⟩|⟨b,O,Y,P,e1,e2,hh,h1,h2,h3,h4⟩⟩:=I
  .rw[h0]at F;cases F
  .simp only[bG,bK]at e2
   obtain⟨rfl,rfl⟩:=e2;have Q:(xR E).length=E.length*3:=by rw[bF,M]at hl;omega
   refine⟨Q,.inr ⟨b,O,m,P,e1,rfl,hh,by omega,h2,h3,λj hj=> ?_⟩⟩;rw[h4 j (by omega),gZ (by omega)]
 refine⟨f,gk-1,u,by omega,⟨⟨lg,lv,H,yk,N,λx G=>r x (by simpa using G),λx G=>U x (List.mem_append.2 (.inl G)),λi hi=> ?_,g1,by simp,λx G=>g2 x (by simpa using G),c,l,C,by omega⟩⟩,?_,by rw[<-u];exact g,o.nl,by have:=o.al;omega,by have:=o.f13;omega⟩
 .have:=V i (by rw[t];omega)
  have T:(E++ [e]).getD i ()=E.getD i ():=by simp[aU,gZ hi]
  rw[T]at this;exact this
 .have:14-(f+1)=13-f:=by omega
  rw[this]at A;exact A
theorem kF.emit{a:er}(h:kF w bd bf ba bl bb bm Cy d first after batch ns q FIN (a::J) K gk s X Z E v wr){p:lu}(I:p=lu.add first after batch d s a){e:ak}(L:rq bd bf ba bl bb bm d first after batch p h.lg wr e y)(T:bm<w/\bl<w):
 e=ax (aw (!p.more))/\Nonempty (kF w bd bf ba bl bb bm Cy d first after batch ns q FIN J K gk p X Z E v y):=by
 obtain⟨C,U,M,V,F,r,N,O,t,G,m,c,l,n,k⟩:=h;obtain⟨u,A,g,P,j,B⟩:=L;have i:∀x,w.heap.size<=x->C≠some x->x∉bl::bm::C.toList:=λx b i=>by
  simp only[bQ,eZ,not_or];exact⟨by omega,by omega,i⟩
 have o:=λx b=>F.lt x b
 refine⟨g,⟨⟨u,A,M,P,F.bH j (λx b=>i x (t x b).1 (t x b).2),λe g=>(r e g).bH j (λx b=>i x (m e g x b).1 (m e g x b).2.2),N,O,λx b=>⟨(t x b).1,λe=> ?_⟩,λx b=>⟨(G x b).1,bP (G x b).2 j.size⟩,λe g x b=>⟨(m e g x b).1,(m e g x b).2.1,λQ=> ?_⟩,?_,λx b=> ?_,?_,k⟩⟩⟩
 .obtain f|f:=B x e
  .exact(t x b).2 f
  .have:=o x b;omega
 .obtain f|f:=B x Q
  .exact(m e g x b).2.2 f
  .have:=(r e g).lt x b;omega
 .refine⟨j.os.trans c.os,j.tape.trans c.tape,j.output.trans c.output,bD c.size j.size,λk H i=>(j.block k (bP H c.size) ?_).trans (c.block k H i)⟩
  simp only[bQ,eZ,not_or]at i⊢;refine⟨i.1,i.2.1,λe=> ?_⟩;obtain f|f:=l k e
  .exact i.2.2 f
  .omega
 .obtain f|f:=B x b
  .exact l x f
  .exact .inr (bD c.size f)
 .rw[List.cons_append,List.foldl_cons,<-I]at n
  exact n
theorem kF.drop(h:kF w bd bf ba bl bb bm Cy d first after batch ns q FIN J K gk s X Z E v wr):Nonempty (kF w bd bf ba bl bb bm Cy d first after batch ns q FIN J K gk s [] none E v wr):=
 ⟨⟨h.lg,h.lv,h.sg,h.y,h.st,λe a=>h.r e (by simp at a;simp[a]),h.ok,h.ix,h.g1,by simp,λe a=>h.g2 e (by simp at a;simp[a]),h.c,h.l,h.fin,h.k⟩⟩
theorem kF.box(h:kF w bd bf ba bl bb bm Cy d first after batch ns q FIN J K gk s X none E v wr)(a:aQ ([]:List Nat) wr y)(f:wr.heap.size<y.heap.size):Nonempty (kF w bd bf ba bl bb bm Cy d first after batch ns q FIN J K gk s X (some wr) E v y):=
 ⟨⟨h.lg,h.lv,h.sg,h.y.bH a (by simp),h.st.bH a (by simp),λe g=>(h.r e g).bH a (by simp),h.ok,h.ix,h.g1,λx b=>by
  simp only[bA]at b;subst b;exact⟨λe=>by have:=h.st.lt _ e;omega,f⟩,h.g2,h.c.trans (a.mono (by simp)),h.l,h.fin,h.k⟩⟩
theorem kF.less(h:kF w bd bf ba bl bb bm Cy d first after batch ns q FIN J K gk s X Z E v wr){K':Nat}(a:K'<=K):Nonempty (kF w bd bf ba bl bb bm Cy d first after batch ns q FIN J K' gk s X Z E v wr):=
 ⟨⟨h.lg,h.lv,h.sg,h.y,h.st,h.r,h.ok,h.ix,h.g1,h.z,h.g2,h.c,h.l,h.fin,by have:=h.k;omega⟩⟩
def Nq:(prog.info? 384).map (λi=>(i.zero,i.size,i.bytes))=some (some (aG #[an ar 0,(),aA ByteArray.empty]),3,48):=by kernel_rfl
theorem kF.push(h:kF w bd bf ba bl bb bm Cy d first after batch ns q FIN J K gk s X Z E v wr){J':List er}{K':Nat}(e:lQ)(U:Zv ns e)(V:E.length<60*(14-e.f))(hr:Seg wr 390 2 e.sb e.sv (eQ (qD.S q e.p d)) (qD.S q e.p d).length)(hg:∀x,e.sb=some x->w.heap.size<=x/\h.sg≠some x/\h.lg≠some x)
 (hJ:J=J'++mU ns q d e.f e.n e.p e.a) (hK:K'+Mj ns e.f e.n<=K) (W:e.sv.oneCell'=true) (hwl:bm<w) (hwd:bd<w) (h0:∀x,Cy=some x->x<w.heap.size):
 ∃O P t,(∀ty,(Builtin.append_ #[385,385] ty #[v,av (some ⟨wr,0,none⟩) 1 1]).run prog (wr.alloc (aB #[(e.n:Int),e.sv,aA ⟨e.a.toArray⟩] 384 (0,0)))=.ok (av O (E.length+1) P) t)/\
  Nonempty (kF w bd bf ba bl bb bm Cy d first after batch ns q FIN J' K' gk s X Z (E++ [e]) (av O (E.length+1) P) t)/\(∀k o,wr.heap[k]? =some o->h.sg≠some k->t.heap[k]? =some o):=by
 have hlen:=h.len;obtain⟨lg,lv,Q,G,st,r,ok,ix,Y,hz,g2,c,l,fin,k⟩:=h;have⟨v',t,H,I,hs,j,hsg⟩:=st.push 385 underlying385 Nq rfl (by decide) e.cells rfl (λu hu=>by
  simp only[lQ.cells,bQ,ez,or_false]at hu;obtain rfl|rfl|rfl:=hu
  .rfl
  .exact W
  .rfl) (by omega) (by decide)
 obtain⟨O,P,rfl,_⟩:=hs.len;have o1:=G.o1;have o2:=G.o2;have o3:=G.o3;have o4:=G.o4;have A:∀x,H=some x->Q=some x∨wr.heap.size<=x:=λx g=>by
  obtain e|⟨b,e,hb⟩:=hsg
  .exact .inl (by rw[<-e,g])
  .rw[g]at e
   simp only[bA]at e;exact .inr (by omega)
 have hsz:=c.size;have L:∀x∈(E++ [e])++X,x=e∨x∈E++X:=λx g=>by
  simp only[dJ,cm]at g⊢;obtain(g|g)|g:=g
  .exact .inr (.inl g)
  .exact .inl g
  .exact .inr (.inr g)
 have m:∀x∈(E++ [e])++X,Seg wr 390 2 x.sb x.sv (eQ (qD.S q x.p d)) (qD.S q x.p d).length/\∀y,x.sb=some y->w.heap.size<=y/\Q≠some y/\lg≠some y:=λx g=>by
  obtain rfl|g:=L x g
  .exact⟨hr,hg⟩
  .exact⟨r x g,g2 x g⟩
 have M:(E++ [e]).length=E.length+1:=by simp
 have B:∀k o,wr.heap[k]? =some o->Q≠some k->t.heap[k]? =some o:=λk o ho hn=>j.at ho (λe=>hn (by simpa using e))
 refine⟨O,P,t,I,⟨⟨lg,lv,H,G.bH j (λx g=> ?_),by rw[vD,M];exact hs,λx g=>(m x g).1.bH j (λy T e=>((m x g).2 y T).2.1 (by simpa using e)),λx g=> ?_,λi hi=> ?_,λx g=> ?_,λx g=> ?_,λx g y T=> ?_,?_,l,?_,?_⟩⟩,B⟩
 .have hx':Q=some x:=by simpa using g
  have hg1:=Y x hx';exact⟨by omega,by omega,by omega,by omega,by omega,by omega,hg1.2⟩
 .obtain g|g:=List.mem_append.1 g
  .exact ok x g
  .rw[List.mem_singleton.1 g];exact U
 .rw[M]at hi
  by_cases N:i<E.length
  .have C:(E++ [e]).getD i ()=E.getD i ():=by simp[aU,gZ N]
   rw[C];exact ix i N
  .obtain rfl:i=E.length:=by omega
   have C:(E++ [e]).getD E.length ()=e:=by simp[aU]
   rw[C];exact V
 .obtain F|F:=A x g
  .exact Y x F
  .refine⟨by omega,λe=> ?_⟩
   have:=G.ls.lt x e;omega
 .refine⟨λe=> ?_,bP (hz x g).2 j.size⟩
  obtain F|F:=A x e
  .exact(hz x g).1 F
  .have:=(hz x g).2;omega
 .have⟨F,h2,h3⟩:=(m x g).2 y T
  refine⟨F,λe2=> ?_,h3⟩;obtain h4|h4:=A y e2
  .exact h2 h4
  .have:=(m x g).1.lt y T
   omega
 .refine⟨j.os.trans c.os,j.tape.trans c.tape,j.output.trans c.output,bD c.size j.size,λk hk hn=>(j.block k (bP hk c.size) (λe=> ?_)).trans (c.block k hk hn)⟩
  have:=(Y k (by simpa using e)).1;omega
 .rw[A8,<-h_,<-hJ]
  exact fin
 .rw[A9]
  omega
def U0{s:lu}(h:s.more=true)(w:er):lu.add first after batch d s w=s:=by unfold lu.add;rw[h];rfl
def Ey{s:lu}(h:s.more=true)(l:List er):l.foldl (lu.add first after batch d) s=s:=by
 induction l with
 |nil=>rfl
 |cons a l b=>rw[List.foldl_cons,U0 h,b]
end
open Go.ChangeMaps
def Ps(bd bf ba bl bb bm:Nat)(Cy:Option Nat)(d:Int)(first:Bool)(after:aY)(batch:Nat)(FIN:lu)(w:ae)(e:ak)(w':ae):Prop:=
 ∃lg lv,e=ax (aM #[])/\uw w' bd bf ba bl bb bm d first after batch FIN lg lv/\aQ (bl::bm::Cy.toList) w w'/\∀x,lg=some x->Cy=some x∨w.heap.size<=x
abbrev aa9(bd bf ba bl bb bm:Nat):ah:=.func (Fn.func 230) #[] #[.pointer (some ⟨bd,0,none⟩),.pointer (some ⟨bf,0,none⟩),.pointer (some ⟨ba,0,none⟩),.pointer (some ⟨bl,0,none⟩),.pointer (some ⟨bb,0,none⟩),.pointer (some ⟨bm,0,none⟩)]
variable{w:ae}{g:Option Nat}
def vE{v:ah}{a:List (Int×Int)}(h:Seg w 390 2 g v (eQ a) a.length):iY w v a:=by
 obtain⟨_,⟨_,rfl,k⟩|⟨b,c,d,l,_,rfl,e,m,n,o,f⟩⟩:=id h
 .have:a=[]:=List.length_eq_zero_iff.1 k
  subst this;exact zX w
 .refine⟨_,d,rfl,by omega,⟨m,λh=>by cases h⟩,λi j=>⟨b,c,rfl,az e,?_,?_⟩⟩
  .have:=f (i*2) (by omega)
   rw[(lY a i j).1]at this;simp[World.cell?,e,this]
  .have:=f (i*2+1) (by omega)
   rw[(lY a i j).2,<-Nat.add_assoc]at this;simp[World.cell?,e,this]
def jH{e sz n k:Nat}{f:TypeId}{v:ah}{cs:List ah}{c:Array ah}{j:Nat×Nat}(h:Seg w e sz g v cs n)(a:w.heap[k]? =some (aB c f j))(d:e≠f):g≠some k:=by
 rintro rfl;obtain⟨_,⟨l,_⟩|⟨b,m,o,p,i,_,q,_⟩⟩:=h
 .cases l
 .simp only[bA]at i
  subst i;rw[q]at a;simp only[bA,Obj.cells.injEq]at a;exact d a.2.1
def Pt{e sz n k:Nat}{v:ah}{cs:List ah}(h:Seg w e sz (some k) v cs n):∃a,w.heap[k]? =some (aB a e (0,0)):=by
 obtain⟨_,⟨d,_⟩|⟨b,f,i,a,c,_,j,_⟩⟩:=h
 .cases d
 .simp only[bA]at c
  subst c;exact⟨a,j⟩
def jW{e sz n d a f:Nat}{g':Option Nat}{v v':ah}{cs b:List ah}(h:Seg w e sz g v cs n)(i:Seg w d a g' v' b f)(c:e≠d):∀x,g'=some x->g≠some x:=λx j=>by
 subst j;have⟨k,l⟩:=Pt i;exact jH h l c
def vF(E:List lQ)(e:lQ)(j:Nat)(h:j<3):(xR (E++ [e]))[E.length*3+j]? =e.cells[j]? :=by
 have b:(xR E).length=E.length*3:=by
  induction E with
  |nil=>rfl
  |cons a l c=>
   have d:xR (a::l)=a.cells++xR l:=by simp[xR]
   have f:a.cells.length=3:=rfl;rw[d,bF,c,cG,f];omega
 rw[vD,g_ (by omega),b,Nat.add_sub_cancel_left]
def aff{gp:Nat}{gv:ah}{ms:List dP}{ns:List gO}(hg:jm w gp g gv ms)(hns:ms.map dP.n=ns)(hgd:Kf ns){vq:ah}{q:List Int}(hq:dc w .i32 vq q)(hql:q.length<=100000)
 {bd bf ba bl bb bm:Nat} {G:Option Nat} {lv0:ah} {d:Int} {first:Bool} {C:aY} {F:Nat} {s:lu} (hd:0<=d/\d<=4) (hy:uw w bd bf ba bl bb bm d first C F s G lv0) (hm:s.more=false)
 (hgo:∀x∈pO gp g ms,x≠bl/\x≠bm/\G≠some x) (hqo:∀a n c,vq=av (some a) n c->a.block≠bl/\a.block≠bm/\G≠some a.block):
 aj prog 229 #[gp,vq,d,aa9 bd bf ba bl bb bm] w (Ps bd bf ba bl bb bm G d first C F ((mU ns q d 13 0 [] []).foldl (lu.add first C F d) s) w):=by
 have⟨W,hF⟩:=aD ((mU ns q d 13 0 [] []).foldl (lu.add first C F d) s);rw[<-hF];have⟨HG,HQ⟩:=aK (λ(y:ae) (hc:aQ (bl::bm::G.toList) w y)=>hg.bH hc (λx U=>by have:=hgo x U;simp only[bQ,eZ,not_or];exact this)) (λ(y:ae) (hc:aQ (bl::bm::G.toList) w y)=>dc.bH hq hc (λa n c e=>by have:=hqo a n c e;simp only[bQ,eZ,not_or];exact this));have⟨D,hD⟩:= @aD (List er->Nat->Nat->lu->List lQ->Option Nat->List lQ->ah->ae->Prop) (λJ K gk s X Z E v wr=>Nonempty (kF w bd bf ba bl bb bm G d first C F ns q W J K gk s X Z E v wr));have⟨HD,ke,afh⟩:=aX hD (show∀gk s X Z v wr,Nonempty (kF w bd bf ba bl bb bm G d first C F ns q W [] 0 gk s X Z [] v wr)->Ps bd bf ba bl bb bm G d first C F W w (ax (aM #[])) wr fromλgk s X Z v wr ⟨⟨lg,lv,_,y,_,_,_,_,_,_,_,c,l,e,_⟩⟩=>⟨lg,lv,rfl,by simp[Ex]at e;rw[<-e];exact y,c,l⟩) (show∀J K gk s X Z E v wr,s.more=true->Nonempty (kF w bd bf ba bl bb bm G d first C F ns q W J K gk s X Z E v wr)->Ps bd bf ba bl bb bm G d first C F W w (ax (aM #[])) wr fromλJ K gk s X Z E v wr hs ⟨⟨lg,lv,_,y,_,_,_,_,_,_,_,c,l,e,_⟩⟩=>⟨lg,lv,rfl,by rw[Ey hs]at e;rw[<-e];exact y,c,l⟩);generalize Ps bd bf ba bl bb bm G d first C F W w=Q at*
 have⟨HST,HY,HGD,HNS,HFF,HM⟩:=eC (aah vq q d w hd) hy hgd hns hF hm;have bdl:=az hy.d;have bml:=az hy.m;have bll:=az hy.l;have HL0:=au (show∀x,G=some x->x<w.heap.size fromλx U=>hy.ls.lt x U);obtain⟨qa,qc,rfl,_,_⟩:=hq;clear hg hns hgd hy hm hgo hqo hF hD;obtain⟨d0,d4⟩:=hd;go_in;go_wp2_with fail
 refine HST.m ?_;rintro e y ⟨sv,rfl,hsv,hy⟩;have⟨sb,M,hsb⟩:=Own.Cs (show Own w 390 2 y sv (eQ (qD.S q [] d)) (qD.S q [] d).length from hsv);have⟨sa,sc,Q9,_⟩:=M.len;have⟨u,hu⟩:=aD (y.alloc (aB #[an ar 0,sv,aA ⟨#[]⟩] 384 (0,0)));have⟨n1,n2,n3⟩:=dt hu;have Wt:=(aQ.of_below hy).trans n2;have hstart:D [] 0 (Mj ns 13 0) s [] none [⟨0,13,[],[],sv,sb⟩] (av (some ⟨y,0,none⟩) 1 1) u:=by
  rw[HD.o];have hsl:=λx U=>M.lt x U
  refine⟨⟨G,lv0,some y,HY.o.bH Wt (by simp),XX (n:=1) (cs:=xR [⟨0,13,[],[],sv,sb⟩]) n1 rfl (by decide),λe he=> ?_,λe he=> ?_,λi hi=> ?_,λx U=> ?_,by simp,λe he x U=> ?_,Wt.mono (by simp),λx U=>.inl U,?_,by simp[Kk]⟩⟩
  .simp only[List.append_nil,cm]at he
   subst he;exact M.bH n2 (by simp)
  .simp only[cm]at he
   subst he;exact⟨HGD.o.dep,HGD.o.pos,by simp,by simp⟩
  .simp only[List.length_singleton]at hi
   obtain rfl:i=0:=by omega
   simp
  .simp only[bA]at U
   subst U;exact⟨hy.size,λe=>by have:=HL0.o _ e;have:=hy.size;omega⟩
  .simp only[List.append_nil,cm]at he
   subst he;have h1:=hsb x U;have h2:=hsl x U;exact⟨h1,λe=>by simp at e;omega,λe=>by have:=HL0.o _ e;omega⟩
  .rw[HFF.o]
   simp[Ex]
 have⟨HS,HU⟩:=aK hstart hu;subst Q9;clear hsv hy M hsb hu n1 n2 n3 Wt hstart;go_wp2_with fail
 rw[<-HU.o]
 go_loopg [8] (Mj ns 13 0) (λgk v wr=>∃s E,D [] 0 gk s [] none E v wr/\s.more=false)
 case atStart=>exact⟨_,_,HS.o,HM.o⟩
 case round=>
  obtain⟨s1,E,hd,hm⟩:=hrel;rw[HD.o]at hd;obtain rfl|⟨E0,e,rfl⟩:=List.eq_nil_or_concat E
  .have HF:=au (ke.o _ _ _ _ _ _ hd)
   obtain⟨hd⟩:=hd;obtain⟨va,vc,rfl,_⟩:=hd.st.len;clear hd hm;simp only[dx];go_wp2
   go_end0
   exact HF.o
  .obtain⟨hd⟩:=hd
   rw[List.concat_eq_append]at hd;have hlen:(E0++ [e]).length=E0.length+1:=by simp
   obtain⟨va,vc,rfl,hvc,hvm⟩:=hd.st.len;rw[hlen]at hd hvm hvc⊢;have apz:E0.length<=vc:=by omega
   have hst:=hd.st;rw[hlen]at hst;have⟨f,gk',hf,hgk,hp,hix,afi,hnl,hal,Yd⟩:=hd.pop;obtain⟨b,off,cap,-,hv,hbl,hcl⟩:=hst.cell (by decide) E0.length (by omega);simp only[bG,bK]at hv;obtain⟨rfl,rfl⟩:=hv;have x0:=(hcl 0 _ (by decide) (vF E0 e 0 (by decide))).1;have x1:=(hcl 1 _ (by decide) (vF E0 e 1 (by decide))).1;have x2:=(hcl 2 _ (by decide) (vF E0 e 2 (by decide))).1;simp only[bM]at x0;have⟨ea,ec,U1,_⟩:=(hd.r e (by simp)).len;rw[U1]at x1;have I:=vE (hd.r e (by simp));rw[U1]at I;have⟨A,hA⟩:= @aD ByteArray (⟨e.a.toArray⟩);rw[<-hA]at x2;have⟨en,hen⟩:=aD e.n;rw[<-hen]at x0;have⟨sl,hsl⟩:=aD ((qD.S q e.p d).length);rw[<-hsl]at x1 I U1;have⟨t,ht⟩:=aD (wr.alloc (aB #[(en:Int),av ea sl ec,aA A] 384 (0,0)));have⟨n1,n2,n3⟩:=dt ht;obtain⟨hp⟩:=hp;have hpt:=hp.box n2 n3;have hwt:=(hp.c.trans (n2.mono (by simp)));have t1:=aF n1 1 rfl;have t2:=aF n1 2 rfl;have⟨L,hL⟩:= @aD Int (ZS.lU q e.p:Int);have⟨zz,oo,hzo,hz1,hz2⟩:=TQ L d;have Zw:=adM (av qa q.length qc) (av ea sl ec) q e.p d t (HQ.o t hwt) (I.below n2.aJ) hql ⟨d0,d4⟩ zz oo (by rw[<-hL];exact hzo);have⟨HDI,HT,HPT,Mh,Mi,HGK⟩:=eC Zw ht hpt n1 hwt hgk;have⟨HM1,HIX,ajA,HNL,HAL,ajB⟩:=eC hm hix afi hnl hal Yd;have⟨HF,HA,Ye,ajC,HLV,HZ1⟩:=eC hf hA hen U1 hL hz1;have HZ2:=au hz2;have hvs:E0.length<=1000:=by have:=hp.len;omega
   have ajD:=au (show w.heap.size<=wr.heap.size from hp.c.size);clear hd hst hp hcl I hpt hwt hgk hm hix afi hnl hal Yd hf hA hen hsl U1 hL hzo hz1 hz2 ht n1 n2 n3 Zw hvm hlen;go_upto_region 3 with fail
   rw[<-HT.o];clear x0 x1 x2;go_wp2_with fail
   refine aN HDI.o ?_;intro t' ht';have htc:aQ ([]:List Nat) t t':=aQ.of_below ht';have hn1:=htc.at Mh.o (by simp);have hpt:Nonempty _:=HPT.o.elim λh=>h.below htc
   have hwt:=Mi.o.trans (htc.mono (by simp));have Mg:=au (Us (HG.o _ hwt) en);have hnn:(mj ms (en:Int)).n=ns.getD en ():=by
    have h1:en<ms.length:=by have:=HNL.o;rw[<-HNS.o,cr,<-Ye.o]at this;exact this
    unfold mj;rw[aI ⟨by omega,by omega⟩,gE,<-HNS.o];simp[aU,h1]
   rw[hnn]at Mg;have U2:=au hnn;have⟨fin,hfin⟩:=aD ((ns.getD en ()).fin);rw[<-hfin]at Mg;have k0:=aF hn1 0 rfl;have k2:=aF hn1 2 rfl;have⟨CH,hCH⟩:= @aD (List er) ((ns.getD en ()).bO.flatMap λx=>if qD.S q (e.p++ [x.1]) d=[]then []else mU ns q d f x.2.toNat (e.p++ [x.1]) (e.a++eR x.1));have Zx:mU ns q d (f+1) e.n e.p e.a=(if fin=true/\L=d then [e.a]else [])++CH:=by
    rw[hCH,hfin,Ye.o,HLV.o];rfl
   rw[Zx]at hpt;have⟨afj,afk,HFN,HCH⟩:=c_ hpt hn1 hfin hCH;clear htc hn1 hpt hwt hnn hfin hCH Zx ht' t1 t2;go_upto_region 5 with fail
   go_cut [61] (λv wc=>∃s2,v=aw s2.more/\Nonempty (kF w bd bf ba bl bb bm G d first C F ns q W CH ((ns.getD e.n ()).bO.map λx=>Mj ns f x.2.toNat).sum gk' s2 [e] (some wr) E0 (av (some ⟨b,off,none⟩) E0.length vc) wc)/\wc.heap[wr.heap.size]? =some (aB #[(en:Int),av ea sl ec,aA A] 384 (0,0)))
   case first=>
    have HNO:=au (show∀y,¬(fin=true/\L=d)->aQ ([]:List Nat) t' y->∃s2:lu,(Value.bool false)=aw s2.more/\Nonempty (kF w bd bf ba bl bb bm G d first C F ns q W CH ((ns.getD e.n ()).bO.map λx=>Mj ns f x.2.toNat).sum gk' s2 [e] (some wr) E0 (av (some ⟨b,off,none⟩) E0.length vc) y)/\y.heap[wr.heap.size]? =some (aB #[(en:Int),av ea sl ec,aA A] 384 (0,0))fromλy hno hy=>by
     have h1:=afj.o;rw[aC hno,List.nil_append]at h1;exact⟨s1,by rw[HM1.o],h1.elim λh=>h.below hy,hy.at afk.o (by simp)⟩)
    by_cases Zy:L=d
    .obtain⟨rfl,rfl⟩:oo=true/\zz=L:=by
      cases oo
      .have:=(HZ2.o rfl).2;omega
      .exact⟨rfl,(HZ1.o rfl).1⟩
     have b1:(zz==d)=true:=by simp[Zy]
     cases fin
     .have MO:=au (HNO.o)
      clear Zy;go_wp2_with fail
      refine aN Mg.o ?_;intro t2 ht2;have HF:=au (MO.o t2 (by simp) (aQ.of_below ht2));clear ht2;go_wp2;go_meet;exact HF.o
     .have HLd:=au Zy
      clear Zy;go_wp2_with fail
      refine aN Mg.o ?_;intro t2 ht2;obtain⟨h2⟩:Nonempty _:=afj.o.elim λh=>h.below (aQ.of_below ht2)
      rw[aI (by exact⟨trivial,HLd.o⟩),List.cons_append,List.nil_append]at h2;have hn2:=(ch ht2).at afk.o (by simp);have k2:=aF hn2 2 rfl;have hyc:=aa8 h2.y HM1.o e.a;rw[<-HA.o]at hyc;have⟨HYC,HEM⟩:=aK hyc (λ(ee:ak) (yy:ae) (hp:rq bd bf ba bl bb bm d first C F (lu.add first C F d s1 e.a) h2.lg t2 ee yy)=>h2.emit rfl hp ⟨bml,bll⟩);have ue:=au (show∀(ee:ak) (yy:ae),rq bd bf ba bl bb bm d first C F (lu.add first C F d s1 e.a) h2.lg t2 ee yy->yy.heap[wr.heap.size]? =some (aB #[(en:Int),av ea sl ec,aA A] 384 (0,0))fromλee yy ⟨_,_,_,_,hc,_⟩=>hc.at hn2 (by
       simp only[bQ,eZ,not_or];have h4:=jH h2.y.ls hn2 (by decide);have h5:=ajD.o;exact⟨by omega,by omega,h4⟩))
      have⟨S2,hS2⟩:=aD (lu.add first C F d s1 e.a);rw[<-hS2]at HYC HEM ue;clear ht2 hn2 hyc hS2;go_wp2_with fail
      refine HYC.m ?_;intro ee yy hyy;have⟨he,hna⟩:=HEM.o ee yy hyy;have⟨HBB,HNA⟩:=aK (ue.o ee yy hyy) hna;subst he;clear hyy hna;have⟨mo,hmo⟩:=aD S2.more;have HMO:=au hmo;rw[<-hmo];clear hmo;have HF:=au (show∃s2:lu,(Value.bool mo)=aw s2.more/\Nonempty (kF w bd bf ba bl bb bm G d first C F ns q W CH ((ns.getD e.n ()).bO.map λx=>Mj ns f x.2.toNat).sum gk' s2 [e] (some wr) E0 (av (some ⟨b,off,none⟩) E0.length vc) yy)/\yy.heap[wr.heap.size]? =some (aB #[(en:Int),av ea sl ec,aA A] 384 (0,0))from⟨S2,by rw[HMO.o],HNA.o,HBB.o⟩);cases mo
      .go_wp2
       go_meet;exact HF.o
      .go_wp2
       go_meet;exact HF.o
    .have HF:=au (HNO.o t' (λh=>Zy h.2) (aQ.refl _ _))
     cases oo
     .clear Zy
      go_wp2;go_meet;exact HF.o
     .obtain rfl:zz=L:=(HZ1.o rfl).1
      have b1:(zz==d)=false:=by rw[j7];exact Zy
      clear Zy;go_wp2;go_meet;exact HF.o
   case rest=>
    obtain⟨s2,rfl,hna,hbx⟩:=hcut;have⟨mo,hmo⟩:=aD s2.more;rw[<-hmo];cases mo
    rotate_left
    .have ajH:=au (afh.o _ _ _ _ _ _ _ _ _ hmo.symm hna)
     clear hmo hna hbx;go_wp2
     go_end0
     exact ajH.o
    .obtain⟨h⟩:=hna
     have hwc:=h.c;have hnd:=U2.o;have N:=bh ns en (by rw[Ye.o];exact HNL.o);have h60:=HGD.o.el _ N;have Sz:=HGD.o.tg _ N;have Zr:=O_ (HG.o wc hwc) en (by rw[hnd];omega);rw[hnd]at Zr;have hdp:∀x∈(ns.getD en ()).bO,Q7 ns f x.2.toNat:=by rw[Ye.o];exact ajA.o
     rw[<-Ye.o]at h;have⟨Y,hes⟩:=aD ((ns.getD en ()).bO);have⟨GE,hGE⟩:= @aD (eY->List er) (λx=>if qD.S q (e.p++ [x.1]) d=[]then []else mU ns q d f x.2.toNat (e.p++ [x.1]) (e.a++eR x.1));have hch:CH=Y.flatMap GE:=by rw[HCH.o,hes,hGE]
     rw[<-hes]at Zr h60 Sz hdp h;rw[hch]at h;have m0:=aF hbx 0 rfl;have⟨HED,HH,ue,HTG,HDP,SD⟩:=eC Zr (show Nonempty _ from⟨h⟩) hbx Sz hdp hGE;have ajJ:=au hmo;clear h hwc hnd N Sz Zr hdp hes hGE hch hbx hmo k0 k2;go_wp2_with fail
     refine HED.m ?_;rintro ee y4 ⟨ea4,ec4,rfl,ho,hy4⟩;have⟨eg,M,_⟩:=Own.Cs ho;have hc4:aQ ([]:List Nat) wc y4:=aQ.of_below hy4;have⟨IN,U3⟩:= @aD (Nat->List lQ->ah->ae->Prop) (λj E v wr2=>Nonempty (kF w bd bf ba bl bb bm G d first C F ns q W ((Y.take j).flatMap GE) (((Y.take j).map λx=>Mj ns f x.2.toNat).sum) gk' s2 [e] (some wr) E v wr2)/\E.length<=E0.length+(Y.length-j)/\wr2.heap[wr.heap.size]? =some (aB #[(en:Int),av ea sl ec,aA A] 384 (0,0))/\Seg wr2 303 2 eg (av ea4 Y.length ec4) (rO Y) Y.length);have HI0:=au (show IN Y.length E0 (av (some ⟨b,off,none⟩) E0.length vc) y4 by
      rw[U3];refine⟨?_,by omega,hc4.at ue.o (by simp),M⟩;rw[fR];exact HH.o.elim λh=>h.below hc4)
     have Eu:=au U3;clear ho M hc4 hy4 U3 m0;go_wp2_with fail
     have⟨B,hB⟩:=aD wr.heap.size;have HBQ:=au hB;have⟨wq,hwq⟩:= @aD ae wr;rw[<-hB];clear hB hwq;go_loopw [8,13] (λv i wr2=>∃(j:Nat) (E:List lQ),i=an ar ((j:Int)-1)/\j<=Y.length/\IN j E v wr2) (λ_ i _=>(intOf i+1).toNat)
     case atStart=>exact⟨Y.length,E0,by simp,aP _,HI0.o⟩
     case round=>
      obtain⟨j,E,rfl,hj,hin⟩:=hrel;rw[Eu.o,<-HBQ.o]at hin;obtain⟨⟨h⟩,hel,hbx,M⟩:=hin;obtain⟨va,vc,rfl,hvc,hvm⟩:=h.st.len;cases j with
      |zero=>
       have Wm:=au (show D [] 0 gk' s2 [] none E (av va E.length vc) wr by
        rw[HD.o];exact h.drop)
       have⟨HG2,U4⟩:=aK HGK.o ajJ.o.symm;clear h hel hbx M hvc hvm;go_wp2
       go_roundg gk'
       case measure=>exact HG2.o
       case rel=>exact⟨s2,E,Wm.o,U4.o⟩
      |succ k=>
       have hke:k<Y.length:=by omega
       have⟨eb,eo,ecc,heg,e1,ebl,hcl⟩:=M.cell (by decide) k hke;simp only[bG,bK]at e1;obtain⟨rfl,rfl⟩:=e1;have x0:=(hcl 0 _ (by decide) (jc Y k hke).1).1;have x1:=(hcl 1 _ (by decide) (jc Y k hke).2).1;simp only[bM]at x0;have N:=bh Y k hke;have Sz:=HTG.o _ N;have hdp:=HDP.o _ N;have htk:Y.take (k+1)=Y.take k++ [Y.getD k ()]:=by rw[fG hke];simp[aU,hke]
       rw[htk,fQ,gF,List.sum_append]at h;have⟨x,U⟩:=aD (Y.getD k ());rw[<-U]at x0 x1 Sz hdp h;obtain⟨V,tgt⟩:=x;simp only at x0 x1 Sz hdp;obtain⟨tn,rfl⟩:∃n:Nat,tgt=n:=⟨tgt.toNat,by omega⟩
       have htn:tn<ns.length:=by omega
       rw[gE]at hdp;have I:=vE (h.r e (by simp));rw[ajC.o]at I;have⟨t3,ht3⟩:=aD (wr.alloc (aB #[.int .i32 V,an ar (tn:Int)] 303 (0,0)));have⟨n1,n2,n3⟩:=dt ht3;have hw3:=h.c.trans (n2.mono (by simp));have Kl:=n2.at hbx (by simp);have b1:=aF Kl 1 rfl;have b2:=aF Kl 2 rfl;have u0:=aF n1 0 rfl;have hstep:=adL (av qa q.length qc) (av ea sl ec) q e.p d V t3 (HQ.o t3 hw3) (I.below n2.aJ) hql ⟨d0,d4⟩;have afl:=au hstep;have h3:Nonempty _:=h.below n2;have⟨HH3,Mh,ajK,ajL,HT3,HTN⟩:=eC h3 n1 Kl (M.bH n2 (by simp)) ht3 htn;have⟨ajM,afm,HW3⟩:=aX hdp hel hw3;have z4:(0:Int)<=(k:Int):=by omega
       have z5:(k:Int)<(Y.length:Int):=by omega
       have hvs:E.length<=1000:=by have:=h.len;omega
       clear h hel hbx M hcl N Sz hdp htk U I ht3 n1 n2 n3 hw3 Kl hstep h3 hvm;go_upto_region 11 with fail
       rw[<-HT3.o];clear x0 x1;go_wp2_with fail
       refine afl.m ?_;rintro ee y5 ⟨sv5,rfl,abc,Ez⟩;have⟨sb5,O,abd⟩:=Own.Cs (show Own t3 390 2 y5 sv5 (eQ (qD.S q (e.p++ [V]) d)) (qD.S q (e.p++ [V]) d).length from abc);have Wn:aQ ([]:List Nat) t3 y5:=aQ.of_below Ez;have HDE:=au (adN sv5 _ y5 (vE O));have⟨sa5,sc5,Q9,_⟩:=O.len;obtain⟨h5⟩:Nonempty _:=HH3.o.elim λh=>h.below Wn
       have U5:=Wn.at ajK.o (by simp);have Yf:=Wn.at Mh.o (by simp);have b2:=aF U5 2 rfl;have⟨u0,u1⟩:=dk Yf;have T:=ajL.o.bH Wn (by simp);have hge:GE (V,(tn:Int))=if qD.S q (e.p++ [V]) d=[]then []else mU ns q d f tn (e.p++ [V]) (e.a++eR V):=by rw[SD.o];simp
       have hgx: [(V,(tn:Int))].flatMap GE=GE (V,(tn:Int)):=by simp
       rw[hgx,hge]at h5;have hk1:([(V,(tn:Int))].map λx=>Mj ns f x.2.toNat).sum=Mj ns f tn:=by simp
       rw[hk1]at h5;by_cases H:qD.S q (e.p++ [V]) d=[]
       .rw[aI H,List.append_nil]at h5
        rw[H]at Q9 HDE;have Zz:IN k E (av va E.length vc) y5:=by
         rw[Eu.o,<-HBQ.o];exact⟨h5.less (Nat.le_add_right _ _),by have:=afm.o;omega,U5,T⟩
        have HSK:=au Zz;have hdv:JA ([]:List (Int×Int))=true:=rfl;rw[hdv]at HDE;subst Q9;clear abc O abd Wn h5 U5 Yf T hge hgx hk1 H Zz hdv Ez b1;go_wp2_with fail
        refine aH HDE.o ?_;go_wp2;go_roundw
        case rel=>exact⟨k,E,by simp,by omega,HSK.o⟩
        case measure=>simp[intOf]
       .rw[aC H]at h5
        have hxs:∀x,sb5=some x->w.heap.size<=x/\h5.sg≠some x/\h5.lg≠some x:=λx U=>⟨by have:=abd x U;have:=HW3.o.size;omega,jW h5.st O (by decide) x U,jW h5.y.ls O (by decide) x U⟩
        have hdv:=TR (λe=>H (List.length_eq_zero_iff.1 e));rw[hdv]at HDE;have apL:(eR V).length<=4:=encode_size_le V;have hal:=HAL.o;have Yd:=ajB.o;have hix:=HIX.o;have hel:=afm.o;have⟨a',c',t,hrun,hnt,hkeep⟩:=h5.push (J':=(Y.take k).flatMap GE) (K':=((Y.take k).map λx=>Mj ns f x.2.toNat).sum) ⟨tn,f,e.p++ [V],e.a++eR V,sv5,sb5⟩ ⟨ajM.o,HTN.o,by simp only[bF];omega,by simp only;omega⟩ (by simp only;omega) O hxs rfl (aP _) (by rw[Q9];rfl) bml bdl HL0.o;have afn:=hkeep _ _ U5 (h5.z B rfl).1;have afo:=T.kept (λx U=>by
         have hx':eg=some x:=by simpa using U
         subst hx';have⟨cur,MF⟩:=Pt T;exact(hkeep _ _ MF (jH h5.st MF (by decide))).trans MF.symm)
        have HIT:=au (show IN k (E++ [⟨tn,f,e.p++ [V],e.a++eR V,sv5,sb5⟩]) (av a' (E.length+1) c') t by
         rw[Eu.o,<-HBQ.o];exact⟨hnt,by rw[bF,List.length_singleton];omega,afn,afo⟩)
        have⟨EN,XP⟩:=aD (Utf8.encode V);have hAE:A++EN=⟨(e.a++eR V).toArray⟩:=by
         rw[HA.o,XP];apply ByteArray.ext;apply Array.toList_inj.1;simp[eR]
        have hcv:=λw=>Ej V w
        rw[<-XP]at hcv;have hA4:A.size<=1000:=by rw[HA.o,ByteArray.size];simp;omega
        have hE4:EN.size<=4:=by rw[XP];exact encode_size_le V
        have hadd:=λw=>run_string_add_sum (P:=prog) (w:=w) A EN (by omega)
        simp only at hrun;rw[<-hAE]at hrun;have gN:=au hrun;subst Q9;clear abc O abd Wn h5 U5 Yf T hxs hge hgx hk1 H hdv hrun hnt hkeep afn afo XP hAE hal hix Ez b1 Yd hel;go_wp2_with fail
        refine aH HDE.o ?_;go_wp2_with (refine cE (by rfl) (.tmp 87) (.tmp 98) 385 (by rfl) _ _ _ t (by rfl) (by rfl) (gN.o _) ?_);go_roundw
        case rel=>exact⟨k,_,by simp,by omega,HIT.o⟩
        case measure=>simp[intOf]
def Yg(ok:Bool)(q:List Int)(w:ae)(e:ak)(w':ae):Prop:=
 ∃v,e=ax (aM #[v,aw ok])/\(∃a n c,v=av a n c)/\(ok=true->dc w' .i32 v q/\∀a n c,v=av (some a) n c->w.heap.size<=a.block/\a.block<w'.heap.size)/\ai w w w'
def pn(o:Option Addr)(text:ByteArray)(k:Int):Bool:=o.isSome&&(decide (0<=k)&&(decide (k<=4)&&iA text.data.toList))
def xu{s:ByteArray}(h:iA s.data.toList=true):∃rs,kq s.data.toList=some rs/\rs.length<=16/\nN s=rs.map λr:Nat=>(r:Int):=by
 unfold iA iX at h;cases hr:kq s.data.toList with
 |none=>rw[hr]at h;simp at h
 |some rs=>
  rw[hr]at h;simp only[cV,ei]at h;exact⟨rs,rfl,by omega,by unfold nN;rw[hr];rfl⟩
def Nr(s:ByteArray)(h:iA s.data.toList=true):(nN s).length<=16:=by
 have⟨c,_,a,b⟩:=xu h;rw[b,cr];exact a
def abf(o:Option Addr)(text:ByteArray)(k:Int)(w:ae)(M:text.size<=1000):aj prog 228 #[aL o,aA text,(k:Int)] w (Yg (pn o text k) (nN text) w):=by
 have⟨d,g⟩:=aK (show∀y,pn o text k=false->ai w w y->Yg (pn o text k) (nN text) w (ax (aM #[(),aw false])) y fromλy x A=>⟨av none 0 0,by rw[x],⟨none,0,0,rfl⟩,(λh=>by rw[x]at h;cases h),A⟩) (show∀y v,pn o text k=true->dc y .i32 v (nN text)->(∀a n c,v=av (some a) n c->w.heap.size<=a.block/\a.block<y.heap.size)->ai w w y->Yg (pn o text k) (nN text) w (ax (aM #[v,aw true])) y fromλy v x A N H=>⟨v,by rw[x],(by obtain⟨a,c,e,_⟩:=A;exact⟨a,_,c,e⟩),λ_=>⟨A,N⟩,H⟩);have b:pn o text k=(o.isSome&&(decide (0<=k)&&(decide (k<=4)&&iA text.data.toList))):=rfl;generalize Yg (pn o text k) (nN text) w=Q at*;generalize pn o text k=ok at*;have B:=au (Mo text w (bD M (by decide)));cases o with
 |none=>
  have f:=au (d.o w b (aO _ _));clear b;go_in;go_wp2;exact f.o
 |some a=>
  simp only[Option.isSome_some,Bool.true_and]at b;by_cases P:k<0
  .have f:=au (d.o w (by rw[b,show decide (0<=k)=false by simp;omega];rfl) (aO _ _))
   clear b;go_in;go_wp2;exact f.o
  by_cases H:4<k
  .have f:=au (d.o w (by rw[b,show decide (k<=4)=false by simp;omega];simp) (aO _ _))
   clear b;go_in;go_wp2;exact f.o
  rw[show decide (0<=k)=true by simp;omega,show decide (k<=4)=true by simp;omega,Bool.true_and,Bool.true_and]at b;have⟨j,l,i⟩:=aX (λh=>xu (s:=text) h) (λy=>ZQ text y (by omega) (by omega)) b;have⟨O,m⟩:=aD (iA text.data.toList);rw[<-m]at b B j;have i:=au b;clear b m;cases O
  .go_in
   go_wp2_with fail
   refine aN B.o ?_;intro y p;have f:=au (d.o y i.o p);clear p;go_wp2;exact f.o
  .have⟨I,J,q,t⟩:=j.o rfl
   rw[t]at g;rw[J]at l;clear J q t;go_in;go_wp2_with fail
   refine aN B.o ?_;intro y p;have C:=au p;clear p;go_wp2_with fail
   refine(l.o y).mono ?_;rintro e z ⟨v,rfl,E,K⟩;have u:dc z .i32 v (I.map λr:Nat=>(r:Int)):=zR (xs:=Fo (some I)) E;have L:=λa n c (e:v=av (some a) n c)=>show w.heap.size<=a.block/\a.block<z.heap.size by
    subst e;have:=World.ownsRow.lt E a.block rfl;have:=C.o.size;omega
   have f:=au (g.o z v i.o u L (C.o.trans (K.mono C.o.size)));obtain⟨T,U,F,_⟩:=u;subst F;have hF:=f.o;simp only[cr]at hF;have G:=au hF;clear E K L hF;go_wp2;exact G.o
structure Km(w:ae)(bf ba bl bb bm:Nat)(first:Bool)(after:aY)(batch:Nat)(s:lu)(lg:Option Nat)(lv:ah):Prop where
 f:w.heap[bf]? =some (aB #[aw first] 4 (0,0))
 a:w.heap[ba]? =some (aB #[an ar after.1,aA after.2] 83 (0,0))
 l:w.heap[bl]? =some (aB #[lv] 66 (0,0))
 b:w.heap[bb]? =some (aB #[an ar batch] 3 (0,0))
 m:w.heap[bm]? =some (aB #[aw s.more] 4 (0,0))
 ls:Seg w 83 2 lg lv (dT s.l) s.l.length
 o1:bf<ba
 o2:ba<bb
 o3:bb<bl
 o4:bl<bm
 g:∀x,lg=some x->bm<x
 n:s.l.length<=batch
 nb:batch<=1000
def Km.box{w y:ae}{j k o p q:Nat}{first:Bool}{c:aY}{e:Nat}{s:lu}{r:Option Nat}{t:ah}(h:Km w j k o p q first c e s r t){d:Int}(v:y=w.alloc (aB #[d] 3 (0,0))):uw y w j k o p q d first c e s r t:=by
 have⟨z,i,A⟩:=dt v;exact⟨z,i.at h.f (by simp),i.at h.a (by simp),i.at h.l (by simp),i.at h.b (by simp),i.at h.m (by simp),h.ls.bH i (by simp),h.o1,h.o2,h.o3,h.o4,az h.m,λx u=>⟨h.g x u,by have:=h.ls.lt x u;omega⟩,h.n,h.nb⟩
def uw.pre{w:ae}{t i j k o p:Nat}{d:Int}{first:Bool}{c:aY}{e:Nat}{s:lu}{q:Option Nat}{r:ah}(h:uw w t i j k o p d first c e s q r):Km w i j k o p first c e s q r:=
 ⟨h.f,h.a,h.l,h.b,h.m,h.ls,h.o1,h.o2,h.o3,h.o4,λx u=>(h.g x u).1,h.n,h.nb⟩
def Kn{ns:List gO}{q:List Int}{first:Bool}{a:aY}{b:Nat}{k:Nat}(h:(jr ns q first a b k).more=true):∀j,jr ns q first a b (k+j)=jr ns q first a b k:=by
 intro j
 induction j with
 |zero=>rfl
 |succ j c=>
  rw[<-Nat.add_assoc]
  conv=>lhs;unfold jr
  rw[c,Ey h]
def GrV(w:ae)(v:ah):Option (List gO)->Prop
 |none=>v=aL none
 |some ns=>∃p g gv ms,v=aL (some ⟨p,0,none⟩)/\jm w p g gv ms/\ms.map dP.n=ns/\Kf ns
def Ko(r:List aY×Bool)(w:ae)(e:ak)(w':ae):Prop:=
 ∃v g,e=ax (aM #[v,aw r.2])/\Seg w' 83 2 g v (dT r.1) r.1.length/\(∀x,g=some x->w.heap.size<=x)/\ai w w w'
variable{o:Option (List gO)}
def Yh{text:ByteArray}{k:Int}{first:Bool}{a:aY}{b:Int}(h:¬(0<=k/\k<=4/\iA text.data.toList=true)∨o=none):fO o text k first a b=([],true):=by
 unfold fO;cases o with
 |none=>rfl
 |some c=>
  obtain h|h:=h
  .simp only
   rw[aC h]
  .cases h
def afp{w:ae}{gv:ah}(h:GrV w gv o)(text:ByteArray)(k:Int)(first:Bool)(f:aY)(b:Int)(hs:text.size<=1000)(hb:b<=1000):
 aj prog 224 #[gv,aA text,an ar k,aw first,aG #[an ar f.1,aA f.2],an ar b] w (Ko (fO o text k first f b) w):=by
 have⟨u,hu⟩:=aD (((w.alloc (aB #[aw first] 4 (0,0))).alloc (aB #[an ar f.1,aA f.2] 83 (0,0))).alloc (aB #[(b:Int)] 3 (0,0)));have⟨u1,P⟩:=aD ((w.alloc (aB #[aw first] 4 (0,0))).alloc (aB #[an ar f.1,aA f.2] 83 (0,0)));have⟨a1,a2,ag,al⟩:=rZ P;have hu2:u=u1.alloc (aB #[(b:Int)] 3 (0,0)):=by rw[hu,P]
 have⟨b1,bg,bl0⟩:=dt hu2;have hsz:u1.heap.size=w.heap.size+2:=by rw[P];simp
 rw[hsz]at b1 bl0;have hg:=ag.trans bg;have a1:=bg.at a1 (by simp);have a2:=bg.at a2 (by simp);have HNO:=au (show∀y,fO o text k first f b=([],true)->ai w w y->Ko (fO o text k first f b) w (ax (aM #[(),aw true])) y fromλy h1 h2=>⟨_,none,by rw[h1],by rw[h1];exact Seg.nil _ _ _,by simp,h2⟩);obtain⟨ga,hga⟩:∃ga,gv=aL ga:=by
  cases o with
  |none=>exact⟨none,h⟩
  |some J=>obtain⟨p,_,_,_,e,_⟩:=h;exact⟨_,e⟩
 subst hga;have⟨H,HU⟩:=aK (abf ga text k u hs) hu;by_cases A:pn ga text k=true
 rotate_left
 .have T:fO o text k first f b=([],true):=by
   apply Yh;unfold pn at A;cases o with
   |none=>exact .inr rfl
   |some J=>
    obtain⟨p,_,_,_,e,_⟩:=h;simp only[Value.pointer.injEq]at e;subst e;exact .inl λ⟨h1,h2,h3⟩=>A (by simp[h1,h2,h3])
  have⟨Mk,HG,Cv⟩:=aX T hg.aJ (show pn ga text k=false by simpa using A);rw[Cv.o]at H;generalize Ko (fO o text k first f b) w=Q at*;clear h hu P hu2 a1 a2 ag b1 bg hg A T hsz;go_in;go_upto_region 1 with fail
  rw[<-HU.o];go_wp2_with fail
  refine H.m ?_;rintro e y ⟨v,rfl,⟨va,vn,vc,rfl⟩,_,hy⟩;have HF:=au (HNO.o y Mk.o (HG.o.trans (hy.mono HG.o.size)));clear hy;go_wp2;exact HF.o
 .obtain⟨J,rfl⟩:∃J,o=some J:=by
   cases o with
   |none=>
    have e:Value.pointer ga=aL none:=h;simp only[Value.pointer.injEq]at e;subst e;simp[pn]at A
   |some J=>exact⟨J,rfl⟩
  have bg0:u.heap.size=w.heap.size+3:=by rw[hu];simp
  obtain⟨p,g,gv,ms,e,hgr,hns,hgd⟩:=h;simp only[Value.pointer.injEq]at e;subst e;have hok2:0<=k/\k<=4/\iA text.data.toList=true:=by
   unfold pn at A;simpa using A
  obtain⟨k0,k4,hav⟩:=hok2;have⟨q,hq⟩:=aD (nN text);have afq:q.length<=16:=by rw[hq];exact Nr text hav
  obtain⟨K,hK⟩:∃K:Nat,k=K:=⟨k.toNat,by omega⟩
  subst hK;have T:fO (some J) text (K:Int) first f b=((jr J q first f b.toNat (K+1)).l,!(jr J q first f b.toNat (K+1)).more):=by
   unfold fO;simp only;rw[aI ⟨k0,k4,hav⟩,hq,gE]
  rw[A,<-hq]at H;have⟨S,hS⟩:= @aD (Nat->lu) (jr J q first f b.toNat);have hS0:S 0=⟨[],false⟩:=by rw[hS];rfl
  have⟨HSS,XF,ke⟩:=aX (show∀j:Nat,S (j+1)=(mU J q (j:Int) 13 0 [] []).foldl (lu.add first f b.toNat (j:Int)) (S j)fromλj=>by rw[hS];rfl) (show∀j i,(S j).more=true->S (j+i)=S j fromλj i h=>by rw[hS]at h⊢;exact Kn h i) (show∀y v g,Seg y 83 2 g v (dT (S (K+1)).l) (S (K+1)).l.length->(∀x,g=some x->w.heap.size<=x)->ai w w y->Ko (fO (some J) text (K:Int) first f b) w (ax (aM #[v,aw (!(S (K+1)).more)])) y fromλy v g h1 h2 h3=>by rw[T,<-hS];exact⟨v,g,rfl,h1,h2,h3⟩);generalize Ko (fO (some J) text (K:Int) first f b) w=Q at*;have hown:=hgr.lt;have⟨Zl,HOWN,HNS,HGD,HG,HA1⟩:=eC (λ(y:ae) (hy:ai w w y)=>hgr.bH (ch hy) (by simp)) hown hns hgd hg a1;have⟨HA2,HB1,Pu,ajQ⟩:=c_ a2 b1 hS0 afq;have⟨B,hB⟩:= @aD Nat b.toNat;have hB1:B<=1000:=by omega
  have hBm:max b 0=(B:Int):=by omega
  rw[<-hB]at HSS;have HBM:=au hBm;clear hgr hns hgd hu P hu2 a1 a2 ag b1 bg hg A T hsz hq hav hown hS hS0 hB hBm afq;go_in;go_upto_region 1 with fail
  rw[<-HU.o];go_wp2_with fail
  refine H.m ?_;rintro e y ⟨v,rfl,⟨va,vn,vc,rfl⟩,afr,hy⟩;have⟨E,U⟩:=afr rfl;have V:aQ ([]:List Nat) u y:=aQ.of_below hy;have Wr:=HG.o.trans V;have e1:=V.at HA1.o (by simp);have e2:=V.at HA2.o (by simp);have e3:=V.at HB1.o (by simp);have c3:=aF e3 0 rfl;have f3:=bB e3 0;have yl:=az e3;have⟨z,hz⟩:=aD (((y.setCell ⟨w.heap.size+2,0,none⟩ (max b 0:Int)).alloc (aB #[()] 66 (0,0))).alloc (aB #[aw false] 4 (0,0)));have⟨m1,m2,mg,ml⟩:=rZ hz;have hset:aQ [w.heap.size+2] y (y.setCell ⟨w.heap.size+2,0,none⟩ (max b 0:Int)):=(aQ.refl _ _).setCell _ (by simp) _;have hss:(y.setCell ⟨w.heap.size+2,0,none⟩ (max b 0:Int)).heap.size=y.heap.size:=by simp[World.setCell]
  rw[hss]at m1 m2 ml;have e4:=mg.at (aE (i:=0) e3 (max b 0:Int)) (by simp);rw[HBM.o]at e4;have W:=hset.trans (mg.mono (by simp));have hwz:=(Wr.aJ).trans (W.below (by simp) Wr.size);have r:Km z w (w.heap.size+1) y (w.heap.size+2) (y.heap.size+1) first f B ⟨[],false⟩ none ():=
   ⟨W.at e1 (by simp),W.at e2 (by simp),m1,by simpa using e4,m2,Seg.nil _ _ _,by omega,by omega,by omega,by omega,by simp,by simp,hB1⟩
  have hrz:=E.bH W (λa n c e=>by
   have:=(U a n c e).1;simp only[cm];have:=bg0;omega)
  have⟨L,hL⟩:=aD y.heap.size;have hvq:∀a n c,Value.slice va vn vc=av (some a) n c->a.block<L:=λa n c e=>by rw[hL];exact(U a n c e).2
  have hNL:w.heap.size+2<L:=by omega
  have⟨IN,U3⟩:= @aD (Nat->ae->Prop) (λj wr=>∃lg lv,Km wr w (w.heap.size+1) L (w.heap.size+2) (L+1) first f B (S j) lg lv/\(S j).more=false/\dc wr .i32 (av va vn vc) q/\ai w w wr);have HI0:=au (show IN 0 z by
   rw[U3];rw[<-hL]at r;exact⟨none,_,by rw[Pu.o];exact r,by rw[Pu.o],hrz,hwz⟩)
  have⟨Eu,HZ,HVQ⟩:=aX U3 hz hvq;clear E U V Wr e1 e2 e3 hz m1 m2 mg hset hss e4 W hwz r hrz U3 hy afr hvq;go_upto_region 7 with fail
  rw[<-HZ.o];rw[<-hL]at ml⊢;clear hL c3 f3 yl;go_wp2_with fail
  go_loopw [32] (λi wr=>∃j:Nat,i=an ar j/\j<=K+1/\IN j wr) (λi _=>K+1-(intOf i).toNat)
  case atStart=>exact⟨0,rfl,bz _,HI0.o⟩
  case round=>
   obtain⟨j,rfl,hj,hin⟩:=hrel;rw[Eu.o]at hin;obtain⟨lg,lv,r,hm,E,M⟩:=hin;by_cases hlt:j<K+1
   .have⟨t,ht⟩:=aD (wr.alloc (aB #[an ar (j:Int)] 3 (0,0)))
    have⟨n1,n2,n3⟩:=dt ht;have hyk:=r.box ht;have hwt:=M.trans (n2.aJ.mono M.size);have I:=r.g;have hea:=aff (Zl.o t hwt) HNS.o HGD.o (E.below n2.aJ) (by have:=ajQ.o;omega) (d:=(j:Int)) (by omega) hyk hm (λx hx=>by
     have h1:=HOWN.o x hx;exact⟨by omega,by omega,λe=>by have:=I x e;omega⟩) (λa n c e=>by
     have h1:=HVQ.o a n c e;exact⟨by omega,by omega,λe=>by have:=I _ e;omega⟩)
    rw[<-HSS.o j]at hea;have t0:=aF n1 0 rfl;have⟨HEA,HT,qH,Mi,oM⟩:=iI hea ht (E.below n2.aJ) hwt I;have z2:(j:Int)<(K:Int)+1:=by omega
    have hLw:w.heap.size<=L:=by omega
    clear r hm E M ht n1 n2 hyk hwt I hea;go_upto_region 10 with fail
    rw[<-HT.o];go_wp2_with fail
    refine HEA.m ?_;rintro e y2 ⟨lg2,lv2,rfl,hy2,hc2,hl2⟩;have F:=hy2.pre;have hr2:=qH.o.bH hc2 (λa n c e=>by
     have h1:=HVQ.o a n c e;simp only[bQ,eZ,not_or];exact⟨by omega,by omega,λe=>by have:=oM.o _ e;omega⟩)
    have X:=Mi.o.trans (hc2.below (λx hx=>by
     simp only[bQ,eZ]at hx;obtain rfl|rfl|hx:=hx
     .omega
     .omega
     .have:=oM.o x hx;omega) Mi.o.size)
    have G:=F.m;have N:=F.l;have d4':=aF G 0 rfl;have d5':=aF N 0 rfl;have s:∀x,lg2=some x->w.heap.size<=x:=λx hx=>by have:=F.g x hx;omega
    have⟨mo,O⟩:=aD ((S (j+1)).more);rw[<-O]at d4';have C:=F.ls;cases mo
    .have Mk:=au (show IN (j+1) y2 by rw[Eu.o];exact⟨lg2,lv2,F,O.symm,hr2,X⟩)
     obtain⟨la,lc,rfl,_⟩:=C.len;clear hy2 hc2 hl2 F hr2 X G N s O C;go_wp2_with fail
     go_roundw
     case rel=>exact⟨j+1,by simp,by omega,Mk.o⟩
     case measure=>simp[intOf];omega
    .have hKj:=XF.o (j+1) (K-j) O.symm
     rw[show j+1+(K-j)=K+1 by omega]at hKj;have Y:=au (show∀n,Q (ax (aM #[lv2,aw false])) (World.drewN y2 n)fromλn=>by
      have Z:=ke.o (World.drewN y2 n) lv2 lg2 (by rw[hKj];exact C.bH (bo y2 n) (by simp)) s (X.trans ((bo y2 n).aJ.mono X.size));rw[hKj,<-O]at Z;exact Z)
     obtain⟨la,lc,rfl,_⟩:=C.len;clear hy2 hc2 hl2 F hr2 X G N s O C hKj;go_wp2_with fail
     go_quiet (fail);go_wp2;exact Y.o _
   .obtain rfl:j=K+1:=by omega
    have G:=r.m;have N:=r.l;rw[hm]at G;have d4':=aF G 0 rfl;have d5':=aF N 0 rfl;have C:=r.ls;have s:∀x,lg=some x->w.heap.size<=x:=λx hx=>by have:=r.g x hx;omega
    have Y:=au (show∀n,Q (ax (aM #[lv,aw true])) (World.drewN wr n)fromλn=>by
     have Z:=ke.o (World.drewN wr n) lv lg (C.bH (bo wr n) (by simp)) s (M.trans ((bo wr n).aJ.mono M.size));rw[hm]at Z;exact Z)
    obtain⟨la,lc,rfl,_⟩:=C.len;clear r hm E M G N C s;go_wp2_with fail
    go_quiet (fail);go_wp2;exact Y.o _
variable{w':ae}
def Q_(D:Nat->Prop)(w:ae)(iv:ah):cd->Prop
 | .ask a=>a.text.size<=maxLen/\a.word.size<=maxLen
 | .dj r=>(∃g,Seg w 83 2 g iv (dT r.items) r.items.length/\∀x,g=some x->D x)/\∀x∈r.items,x.2.size<=maxLen
 |_=>True
variable{D:Nat->Prop}
def Q_.rd{iv:ah}{m:cd}(h:Q_ D w iv m):m.rd w iv:=by
 cases m with
 |ask a=>exact h
 |dj r=>obtain⟨⟨g,d,_⟩,e⟩:=h;exact⟨aT.gP d (λ_=>rfl) (by decide),e⟩
 |eu a b=>trivial
 |grant a b c=>trivial
 |stop a b=>trivial
def gK(D:Nat->Prop)(w:ae)(v:ah)(ls:List fF):Prop:=
 ∃ms:List SC,ms.map SC.l=ls/\(∃g,Seg w 187 2 g v (ms.flatMap SC.cells) ms.length/\∀b,g=some b->D b)/\∀m∈ms,Q_ D w m.iv m.l.m/\∃a n c,m.iv=av a n c
def gK.of{B:Nat}{v:ah}{i:List fF}(h:eH B w v i):gK (λb=>B<=b/\b<w) w v i:=by
 obtain⟨n,o,p,j⟩:=h;have⟨g,d,f⟩:=p.Cs;refine⟨n,o,⟨g,d,λb e=>⟨f b e,d.lt b e⟩⟩,λm k=>⟨?_,(j m k).2⟩⟩;have q:=(j m k).1;revert q;cases m.l.m with
 |ask a=>exact id
 |dj r=>rintro⟨⟨g,d,f⟩,s⟩;exact⟨⟨g,d,λb e=>⟨f b e,d.lt b e⟩⟩,s⟩
 |eu a b=>exact id
 |grant a b c=>exact id
 |stop a b=>exact id
def gK.mono{D':Nat->Prop}{v:ah}{i:List fF}(h:gK D w v i)(j:∀b,D b->D' b):gK D' w v i:=by
 obtain⟨o,p,⟨g,d,e⟩,k⟩:=h;refine⟨o,p,⟨g,d,λb f=>j b (e b f)⟩,λm n=>⟨?_,(k m n).2⟩⟩;have q:=(k m n).1;revert q;cases m.l.m with
 |ask a=>exact id
 |dj r=>rintro⟨⟨g,d,e⟩,s⟩;exact⟨⟨g,d,λb f=>j b (e b f)⟩,s⟩
 |eu a b=>exact id
 |grant a b c=>exact id
 |stop a b=>exact id
def gK.mono'{D':Nat->Prop}{v:ah}{i:List fF}(h:gK D w v i)(j:∀b,b<w.heap.size->D b->D' b):gK D' w v i:=by
 obtain⟨o,p,⟨g,d,f⟩,k⟩:=h;refine⟨o,p,⟨g,d,λb e=>j b (d.lt b e) (f b e)⟩,λm n=>⟨?_,(k m n).2⟩⟩;have q:=(k m n).1;revert q;cases m.l.m with
 |ask a=>exact id
 |dj r=>rintro⟨⟨g,d,f⟩,s⟩;exact⟨⟨g,d,λb e=>j b (d.lt b e) (f b e)⟩,s⟩
 |eu a b=>exact id
 |grant a b c=>exact id
 |stop a b=>exact id
def gK.keep{v:ah}{i:List fF}(h:gK D w v i)(j:∀b,D b->w'.heap[b]? =w.heap[b]?):gK D w' v i:=by
 obtain⟨o,p,⟨g,e,d⟩,k⟩:=h;refine⟨o,p,⟨g,e.kept λb f=>j b (d b (by simpa using f)),d⟩,λm n=>⟨?_,(k m n).2⟩⟩;have q:=(k m n).1;revert q;cases m.l.m with
 |ask a=>exact id
 |dj r=>rintro⟨⟨g,e,d⟩,s⟩;exact⟨⟨g,e.kept λb f=>j b (d b (by simpa using f)),d⟩,s⟩
 |eu a b=>exact id
 |grant a b c=>exact id
 |stop a b=>exact id
def gK.nil(D:Nat->Prop)(w:ae):gK D w () []:=⟨[],rfl,⟨none,Seg.nil _ _ _,by simp⟩,by simp⟩
def gK.len{v:ah}{b:List fF}(h:gK D w v b):∃a k,v=av a b.length k/\b.length<=k/\b.length<=maxLen:=by
 obtain⟨c,d,⟨g,e,m⟩,n⟩:=h;have f:c.length=b.length:=by rw[<-d,cr]
 rw[<-f];have⟨a,k,i,j,l⟩:=e.len;exact⟨a,k,i,j,l⟩
def Q_.plain{iv:ah}{m:cd}(h:Q_ D w iv m)(d:∀r,m≠.dj r)(D':Nat->Prop)(w':ae):Q_ D' w' iv m:=by
 cases m with
 |ask a=>exact h
 |dj r=>exact(d r rfl).elim
 |eu a b=>trivial
 |grant a b c=>trivial
 |stop a b=>trivial
def gK.add{v o:ah}{d a:List fF}(h:gK D w v d)(A:gK D w o a)(B:∀l∈d,∀r,l.m≠.dj r)(i:∀l∈a,∀r,l.m≠.dj r)(Q:d.length+a.length<=1000000)(C:∀b,w.heap.size<=b->D b):
 ∃g v' w',(∀E,(Builtin.append_ #[130,130] E #[v,o]).run prog w=.ok v' w')/\gK D w' v' (d++a)/\aQ g w w'/\∀x∈g,D x:=by
 obtain⟨p,j,⟨g,F,q⟩,s⟩:=h;obtain⟨f,k,⟨T,G,U⟩,t⟩:=A;have V:p.length=d.length:=by rw[<-j,cr]
 have H:f.length=a.length:=by rw[<-k,cr]
 have⟨v',w',I,J,K,L,M⟩:=F.add 130 underlying130 xp rfl (by decide) G (by
  intro u y;simp only[List.mem_flatMap,SC.cells,bQ,ez,or_false]at y;obtain⟨z,_,rfl|rfl⟩:=y
  .rfl
  .cases z.l.m<;>rfl) (by omega) (by decide)
 refine⟨g.toList,v',w',J,⟨p++f,by rw[gF,j,k],⟨I,by rw[fQ,bF];exact K,λb n=> ?_⟩,λm N=> ?_⟩,L,λx O=>q x (by simpa using O)⟩
 .obtain e|⟨W,e,P⟩:=M
  .exact q b (by rw[<-e,n])
  .rw[e]at n
   simp only[bA]at n;exact C b (by omega)
 .obtain h|h:=List.mem_append.1 N
  .have c:m.l∈d:=by rw[<-j];exact List.mem_map.2 ⟨m,h,rfl⟩
   exact⟨(s m h).1.plain (B _ c) D w',(s m h).2⟩
  .have c:m.l∈a:=by rw[<-k];exact List.mem_map.2 ⟨m,h,rfl⟩
   exact⟨(t m h).1.plain (i _ c) D w',(t m h).2⟩
def Pv{first:Bool}{a:aY}{b:Nat}{d:Int}:∀(ws:List er) (s:lu) {x:aY},x∈(ws.foldl (lu.add first a b d) s).l->x∈s.l∨∃w∈ws,x=(d,⟨w.toArray⟩)
 | [],s,x,h=>.inl h
 |w::ws,s,x,h=>by
  rw[List.foldl_cons]at h;obtain h|⟨y,c,e⟩:=Pv ws _ h
  .unfold lu.add at h
   split at h
   .exact .inl h
   split at h
   .exact .inl h
   split at h
   .exact .inl h
   obtain h|h:=List.mem_append.1 h
   .exact .inl h
   .exact .inr ⟨w,by simp,List.mem_singleton.1 h⟩
  .exact .inr ⟨y,by simp[c],e⟩
def sX{ns:List gO}(c:Kf ns)(q:List Int)(first:Bool)(a:aY)(b:Nat):∀(K:Nat) {x:aY},x∈(jr ns q first a b K).l->0<=x.1/\x.1<(K:Int)/\x.2∈jF ns
 |0,x,h=>by simp[jr]at h
 |K+1,x,h=>by
  rw[jr]at h;obtain h|⟨w,f,e⟩:=Pv _ _ h
  .have:=sX c q first a b K h
   exact⟨this.1,by omega,this.2.2⟩
  .subst e
   refine⟨by simp,by simp;omega,?_⟩;have d:=(Kg ns q (K:Int) 13 0 [] []).subset f;rw[<-c.enum]at d;exact List.mem_map.2 ⟨w,d,rfl⟩
def Kq{o:Option (List gO)}(d:∀ns,o=some ns->Kf ns){text:ByteArray}{k:Int}{first:Bool}{a:aY}{b:Int}{x:aY}(h:x∈(fO o text k first a b).1):0<=x.1/\x.1<=k/\mQ x.2.data.toList=true:=by
 unfold fO at h;cases o with
 |none=>simp at h
 |some ns=>
  simp only at h;split at h
  .rename_i i
   have⟨f,j,g⟩:=sX (d ns rfl) _ _ _ _ _ h;refine⟨f,by omega,?_⟩;have c:=(d ns rfl).good;unfold fx at c;split at c
   .cases c
   split at c
   .cases c
   rename_i e;rw[Bool.not_eq_false]at e;exact List.all_eq_true.1 e _ g
  .simp at h
end Go.Proofs.YtjpnlfpompnpkaaGreat
