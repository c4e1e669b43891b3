import Derived.Test.YtjpnlfpompnpkaaGreatP15
import Derived.Test.YtjpnlfpompnpkaaGreatP16
namespace Go.Proofs.YtjpnlfpompnpkaaGreat
open Go.RowKit Go.Proofs.Tryz
open Go.Value renaming int->an,slice->av,bool->aw,string->aA,tuple->aM,pointer->aL,agg->aG
open Go.IntKind renaming i64->ar
open Go.Ending renaming returned->ax
open Go.Obj renaming cells->aB
open Go renaming World->ae,Value->ah,Calls->aj,Ending->ak
open Go.RowKit renaming Below->ai
set_option maxRecDepth 100000
set_option linter.all false
set_option maxHeartbeats 2000000
open Go.ChangeMaps mX
variable{P:Tg->Prop}{τ br:cj}{w w':ae}{c:aV}
def Bb:∀(n:Nat) (l:List Nat),l.Nodup->(∀x∈l,x<n)->l.length<=n
 |0,l,_,h=>by
  cases l with
  |nil=>simp
  |cons a l=>exact bL (h a (by simp)) (kG _)
 |n+1,l,b,h=>by
  have f:=Bb n (l.erase n) (b.erase n) (λx d=>by
   have:=(b.mem_erase_iff).1 d;have:=h x this.2;omega)
  have e:=List.length_erase (a:=n) (l:=l);split at e<;>omega
def mR.room{p:Nat}{g:Option Nat}{T:Int->Option Int}{n:Nat}(h:mR w p 24 g T n)(hd:∀id,(T id).isSome=true->0<=id/\id<24){id:Int}(u:T id=none)(B:0<=id/\id<24):(n:Int)<24:=by
 obtain⟨⟨v,l,_,r,rfl⟩,_,_⟩:=h;have d:∀q∈l.map Prod.snd,0<=q/\q<24/\q≠id:=λq f=>by
  obtain⟨⟨t,i⟩,x,rfl⟩:=List.mem_map.1 f;have j:=(r.m i t).2 x;have s:=hd i (by rw[j];rfl);exact⟨s.1,s.2,λe=>by rw[show i=id from e,u]at j;cases j⟩
 have k:((id::l.map Prod.snd).map Int.toNat).Nodup:=by
  rw[List.Nodup,List.pairwise_map];refine List.pairwise_cons.2 ⟨λq f=> ?_,?_⟩
  .have:=d q f;omega
  .refine List.Pairwise.imp_of_mem (λ{a b} y z A=> ?_) r.nd
   have:=d a y;have:=d b z;omega
 have:=Bb 24 _ k (λq f=>by
  obtain⟨i,o,rfl⟩:=List.mem_map.1 f;obtain rfl|j:=List.mem_cons.1 o
  .omega
  .have:=d i j;omega)
 simp at this;omega
def PD(f a j x y:Int):0<=kC f a j x y/\kC f a j x y<=3000:=by
 have b:=jy x 6 (by omega);have d:=jy a 1000 (by omega);have e:=jy j 1000 (by omega);have g:=O7 f (clip x 6).toNat (by omega);have h:=sH y (clip j 1000+1) (by omega);unfold kC;omega
def Vc{x:cB}(a:(x.qs.map ej.id).Nodup){y:ej}(b:y∈x.qs):x.put y=x:=by
 have:nO x.qs y=x.qs:=by
  unfold nO;rw[jh (g:=id) (λz d=> ?_),List.map_id]
  show(if z.id=y.id then y else z)=z
  split
  .rename_i e
   exact Pd a b d e.symm
  .rfl
 unfold cB.put;rw[this]
def Rm(c:aV)(cb kb:Nat)(r:cB×ej×List fF)(τ:cj)(w:ae)(e:ak)(w':ae):Prop:=
 ∃v,e=ax v/\∃br m' k',gK (λb=>br b=.tmp/\w.heap.size<=b) w' v r.2.2/\cJ c br w' m' (r.1.put r.2.1)/\m'.cb=cb/\k'∈m'.qs/\k'.y=r.2.1/\k'.b=kb/\Fr dB τ br w w'
structure ZA(c:aV)(w:ae)(m:jG)(now:Int):Prop where
 c0:w.cell? m.cb=()
 c1:w.cell? ⟨m.cb,1,none⟩=m.uv
 c2:w.cell? ⟨m.cb,2,none⟩=c.workers
 c3:w.cell? ⟨m.cb,3,none⟩=c.copies
 c4:w.cell? ⟨m.cb,4,none⟩=c.slots
 c5:w.cell? ⟨m.cb,5,none⟩=c.batch
 c6:w.cell? ⟨m.cb,6,none⟩=c.aS
 c7:w.cell? ⟨m.cb,7,none⟩=c.dY
 c8:w.cell? ⟨m.cb,8,none⟩=c.first
 c9:w.cell? ⟨m.cb,9,none⟩=c.cap
 c10:w.cell? ⟨m.cb,10,none⟩=c.b_
 c11:w.cell? ⟨m.cb,11,none⟩=c.net
 c13:w.cell? ⟨m.cb,13,none⟩=(now:Int)
 c16:w.cell? ⟨m.cb,16,none⟩=m.tp
variable{m:jG}{x:cB}
def cJ.cfg(h:cJ c τ w m x):ZA c w m x.now:=by
 have a:=h.bx;refine⟨?_,?_,?_,?_,?_,?_,?_,?_,?_,?_,?_,?_,?_,?_⟩<;>simp[World.cell?,a,jG.cells]
def qJ(c:aV)(m:jG)(kb xb:Nat)(x:cB)(y:ej)(τ:cj)(w:ae)(w':ae):Prop:=
 ∃br m' k',cJ c br w' m' (x.put y)/\m'.cb=m.cb/\m'.tp=m.tp/\m'.uv=m.uv/\k'∈m'.qs/\k'.y=y/\k'.b=kb/\Fr dB τ br w w'/\w'.heap[xb]? =some (aB #[m.cb] 60 (0,0))/\br xb=.keep
variable{y:ej}{u:ae}
def qJ.below{e xb:Nat}{z:ae}(h:qJ c m e xb x y τ w u)(i:ai u u z):qJ c m e xb x y τ w z:=by
 obtain⟨j,k,l,n,o,b,a,p,q,r,s,f,g⟩:=h;have⟨t,d⟩:=n.same i .keep;exact⟨_,k,l,t,o,b,a,p,q,r,s.trans d,d.at f (by rw[g];exact lO),(d.old _ (az f)).trans g⟩
def qJ.of(h:cJ c br w' m (x.put y)){k:jd}(a:k∈m.qs)(d:k.y=y)(e:Fr dB τ br w w'){xb:Nat}(f:w'.heap[xb]? =some (aB #[m.cb] 60 (0,0)))(g:br xb=.keep):qJ c m k.b xb x y τ w w':=⟨br,m,k,h,rfl,rfl,rfl,a,d,rfl,e,f,g⟩
def qJ.store{e xb:Nat}(h:qJ c m e xb x y τ w u){s:Nat}(z:En){v:ae}(B:aQ [e] u v)(C:∀k:jd,k.b=e->k.y=y->u.heap[k.b]? =some (aB k.cells.toArray 184 (0,0))->v.heap[k.b]? =some (aB (k.hs s z).cells.toArray 184 (0,0))):qJ c m e xb x (setH y s z) τ w v:=by
 obtain⟨f,l,a,n,E,g,d,o,i,j,F,G,p⟩:=h;have⟨t,A,H⟩:=n.hput o s z (by rw[j];exact B) (C a j i (n.q.r a o).c);rw[i,Pq x (show y.id=(setH y s z).id from rfl)]at t;exact⟨f,l.vC (pj l.qs (a.hs s z)),a.hs s z,t,E,g,d,H,by show setH a.y s z=_;rw[i],j,F.trans A,A.at G (by rw[p];exact lO),p⟩
def qJ.rd{a xb:Nat}(h:qJ c m a xb x y τ w u){s:Nat}(Q:s<6):ZA c u m x.now/\u.cell? xb=m.cb/\
 (u.cell? ⟨a,6+s*4,none⟩=some (an ar (y.sh.getD s ()).turn)/\u.cell? ⟨a,6+s*4+1,none⟩=some (an ar (y.sh.getD s ()).kU)/\u.cell? ⟨a,6+s*4+2,none⟩=some (an ar (y.sh.getD s ()).first)/\u.cell? ⟨a,6+s*4+3,none⟩=some (aw (y.sh.getD s ()).cZ))/\
 (∀j,u.frozen? ⟨a,j,none⟩=false)/\m.cb<u.heap.size/\a<u/\xb<u:=by
 obtain⟨T,W,o,i,U,k,d,p,V,l,X,t,Y⟩:=h;have⟨v,n,z,A,B,C,E,F,G,H,e,f,g,b⟩:=i.cfg;have I:=i.bd;rw[U]at v n z A B C E F G H e f g b I;rw[k]at b;rw[d]at n;have⟨J,K,L,M,N⟩:=(i.q.r o p).shc Q;rw[l,V]at J K L M;rw[l]at N;have O:=az (i.q.r o p).c;rw[l]at O;exact⟨⟨v,n,z,A,B,C,E,F,G,H,e,f,g,b⟩,aF t _ rfl,⟨J,K,L,M⟩,N,I,O,az t⟩
def qJ.set{kb xb:Nat}{B:Int}(h:qJ c m kb xb x y τ w u)(f:cI c B x){id:Int}(hid:0<=id/\id<24)(t:Int)(l:0<=t)(t1:t<=1099511627776):
 aj prog 262 #[m.tp,id,(t:Int)] u λe w1=>e=ax (0:Int)/\qJ c m kb xb {x with T:=(pd (x.T,x.tn) id t).1,tn:=(pd (x.T,x.tn) id t).2} y τ w w1:=by
 obtain⟨n,m1,o,h1,h2,b,d,p,q,r,s,g,j⟩:=h;have hs:=XB h1.i.a id t hid.1 l t1 (λhi=>h1.i.a.room f.tm hi hid);rw[b]at hs;refine hs.mono ?_;rintro e w1 ⟨rfl,k⟩;rw[<-b]at k;have⟨v,j1,j2⟩:=h1.time k;exact⟨rfl,_,m1.Ct v,o,j1,h2,b,d,p,q,r,s.trans j2,j2.at g (by rw[j];exact lO),(j2.old _ (az g)).trans j⟩
def qJ.ask{f xb:Nat}(h:qJ c m f xb x y τ w u)(t:fX c=true){s:Nat}(z:s<(aZ c).toNat)(a:Int)(A:0<=a)(B:a<=1000000000000)(C:y.text.size<=maxLen)(g:(jl y.ss s).1.2.size<=maxLen)(r:cB×ej×List fF)(E:r=(x,y,kD c x y s a)):
 aj prog 261 #[m.cb,f,(s:Int),(a:Int)] u (Rm c m.cb f r τ w):=by
 obtain⟨F,G,H,i,j,I,k,l,d,n,o,N,O⟩:=h;have p:=aa6 i l t z a A B (by rw[d];exact C) (by rw[d];exact g);rw[j,n,d]at p;refine p.mono ?_;rintro e Q ⟨v,rfl,J,K⟩;have⟨L,M⟩:=i.same K .tmp;subst E;exact⟨v,rfl,_,G,H,(gK.of J).mono λb q=>⟨d_ q.1,bD o.size q.1⟩,L,j,l,d,n,o.trans M⟩
def qJ.box{m:jG}{a xb:Nat}{x:cB}{y:ej}{u:ae}(h:qJ c m a xb x y τ w u):u.heap[xb]? =some (aB #[m.cb] 60 (0,0)):=by
 obtain⟨_,_,_,_,_,_,_,_,_,_,_,b,_⟩:=h;exact b
def Vd{m:jG}{x:cB}{y:ej}{B:Int}(h:cJ c τ w m (x.put y)){k:jd}(hk:k∈m.qs)(hy:k.y=y)(j:cI c B x)(l:iH c B x y)(hB:B<=900000){s:Nat}(hs:s<(aZ c).toNat)(f:Int)(ht:y.text.size<=maxLen)(haf:(jl y.ss s).1.2.size<=maxLen)(hT:x.T (bY y.slot s)=none):
 aj prog 250 #[m.cb,k.b,(s:Int),(f:Int)] w (Rm c m.cb k.b (cL c x y s f) τ w):=by
 have hsv:=cW c;have⟨sl0,sl1,sl2,sl3⟩:=l.slot j.sl;have sl4:=j.four;have htb:=pf j l hs;have hsb:=A0 l (s:=s) (by omega);have n0:=j.n0;have n1:=j.n1;have⟨u,hu⟩:=aD (w.alloc (aB #[m.cb] 60 (0,0)));have⟨b1,bg,bl⟩:=dt hu;have⟨g1,g2⟩:=h.same bg.aJ .keep;have⟨tm,n⟩:=aD (bY y.slot s);have X6:=au (show∀z,aj prog 125 #[y.slot,(s:Int)] z λe w'=>e=ax tm/\z=w' fromλz=>n▸nR y.slot s z sl0 (by omega) (by omega) (by omega));rw[<-n]at htb;have⟨I,J⟩:=aK (show aj prog 256 #[m.tp,an ar tm] u λe w'=>e=ax (aM #[an ar ((x.T tm).getD 0),aw (x.T tm).isSome])/\ai u u w' from Ay g1.i.a tm) (qJ.of g1 hk hy g2 b1 (d_ (aP _)));have⟨xb,K⟩:=aD w.heap.size;have HXB:=au K;rw[<-K]at J bl;have Cw:=au bg.aJ;obtain⟨uc,ux0,-,-,ucl,ukl,uxl⟩:=J.o.rd (s:=s) (by omega);have u16:=uc.c16;obtain⟨-,uq1,-,-,-,-,-⟩:=(g1.q.r k hk).cells';rw[hy]at uq1;have⟨H,Cv⟩:=aK h j;have⟨Q,hQ⟩:=aD (Rm c m.cb k.b (cL c x y s f) τ w);rw[<-hQ];have HQ:=au hQ;have⟨QI,HU⟩:=aK (show∀e y,Q e y->∃v,e=ax v fromλe y hh=>by rw[HQ.o]at hh;obtain⟨v,q1,_⟩:=hh;exact⟨v,q1⟩) hu;have z1:(0:Int)<=(s:Int):=by omega
 have z2:(s:Int)<6:=by omega
 have M:s<6:=by omega
 have⟨Wp,HSL⟩:=aK (And.intro ht haf) (show s<y.sh.length by rw[l.hl];omega);have⟨h0,N⟩:=aD (y.sh.getD s ());have⟨HH0,abn⟩:=aK N n;rw[<-N]at hsb;have⟨ix,t⟩:=aD (max (kQ ((bR c s).map λw=>qo c.workers x.L w x.now)) 0);have abo:=au (show cL c x y s f=({x with T:=(pd (x.T,x.tn) (bY y.slot s) (min (x.now+kC c.first c.cap c.b_ 0 f) 1099511627776)).1,tn:=(pd (x.T,x.tn) (bY y.slot s) (min (x.now+kC c.first c.cap c.b_ 0 f) 1099511627776)).2},setH y s ⟨ix,0,x.now,false⟩,kD c x y s ix)by
  unfold cL;simp only[hT];rw[<-t])
 rw[<-n]at hT;rw[hT]at I;simp only[Option.getD_none,Option.isSome_none]at I;have hib:=Pg ((bR c s).map λw=>qo c.workers x.L w x.now);have hcl:=A5 j.may hs;rw[cr]at hib;have ib:0<=ix/\ix<=10:=by omega
 obtain⟨pb,UW,UO,ag,aa,abp,hpv,-,-,-,-⟩:=h.cop hs;have⟨jx,O⟩:=aD (kQ ((bR c s).map λw=>qo c.workers x.L w x.now));rw[<-O]at t;have⟨HIX,HJX,HPV,Ww⟩:=c_ t O hpv hcl;clear t O hib hpv hcl hT n hQ hu K N bg b1 g1 g2 uc l j hk hy ht haf h;go_in;go_upto_region 1 with fail
 rw[<-HU.o,<-HXB.o];go_wp2_with fail
 refine aH (X6.o _) ?_;go_wp2_with fail
 refine I.m ?_;rintro e y1 ⟨rfl,U⟩;have⟨V,X⟩:=aK (Cw.o.trans (U.mono Cw.o.size)) (J.o.below U);have⟨vc,vx0,⟨Yt,Yu,Ky,va3⟩,vf,vcl,vkl,vxl⟩:=X.o.rd (s:=s) M;rw[<-HH0.o]at Yt Yu Ky va3;obtain⟨pb',amF,afA,ag,aa,abp,p,e2,e3,e4,-⟩:=(H.o.fu V.o).cop hs;rw[HPV.o]at p;simp only[bG,bA,dr,et,bK]at p;obtain⟨⟨rfl,rfl⟩,rfl⟩:=p;have v12:=(H.o.fu V.o).cells.c12;rw[HPV.o]at v12;have HXC:=au (show y1.heap[xb]? =some (aB #[m.cb] 60 (0,0))from X.o.box);have HII:=au (US (w:=y1) (xb:=xb) (λw=>qo c.workers x.L w x.now) e4 (by have:=Ww.o.1;have:=Ww.o.2.2;omega) (λy i hy=>Ya ((H.o.fu V.o).fu hy) ((ch hy).at HXC.o (by simp)) i));rw[<-HJX.o]at HII;clear e4 U Yt Yu Ky va3 vf;go_wp2_with fail
 refine HII.m ?_;rintro e y2 ⟨rfl,hy2⟩;have HS2:=au (X.o.below hy2);have⟨tc,tx0,⟨ta0,ta1,ta2,ta3⟩,tf,tcl,tkl,txl⟩:=HS2.o.rd (s:=s) M;have t13:=tc.c13;have⟨g,A⟩:=aD ((((y2.setCell ⟨k.b,6+s*4,none⟩ (max jx 0:Int)).setCell ⟨k.b,6+s*4+1,none⟩ (0:Int)).setCell ⟨k.b,6+s*4+2,none⟩ x.now).setCell ⟨k.b,6+s*4+3,none⟩ (aw false));have C:=au (show qJ c m k.b xb x (setH y s ⟨ix,0,x.now,false⟩) τ w g by
  refine HS2.o.store ⟨ix,0,x.now,false⟩ (by rw[A];exact((((aQ.refl [k.b] y2).setCell _ (by simp) _).setCell _ (by simp) _).setCell _ (by simp) _).setCell _ (by simp) _) (λk' ek ey hc=> ?_);have hb:=aa3 (w:=y2) (s:=s) (k:=k') (by rw[ey];exact HSL.o) ⟨ix,0,x.now,false⟩ hc;rw[A,<-HIX.o,<-ek];exact hb)
 have SE:=au A;clear A hy2 tc vc e2 e3;go_upto_region 14 with fail
 rw[<-SE.o];clear ta0 ta1 ta2 ta3 tf t13 tx0 v12 vx0;have E:=au (show(setH y s ⟨ix,0,x.now,false⟩).sh.getD s ()=⟨ix,0,x.now,false⟩from lP HSL.o _);have wb:=PD c.first c.cap c.b_ (0) f;have Mi:=au (show∀z,aj prog 263 #[aG #[(),m.uv,c.workers,c.copies,c.slots,c.batch,c.aS,c.dY,c.first,c.cap,c.b_,c.net],an ar (0),an ar f] z λe w'=>e=ax (kC c.first c.cap c.b_ (0) f:Int)/\ai z z w' fromλz=>Zj _ _ _ _ _ _ _ _ c.first c.cap c.b_ c.net (0) f z);have⟨W,hW⟩:=aD (kC c.first c.cap c.b_ (0) f);rw[<-hW]at Mi wb;have wl:IntKind.i64.wrap (x.now+W)=x.now+W:=IntWalk.i64_in _ (by omega);have⟨x4,F⟩:= @aD cB ({x with T:=(pd (x.T,x.tn) tm (min (x.now+W) 1099511627776)).1,tn:=(pd (x.T,x.tn) tm (min (x.now+W) 1099511627776)).2});have HST:=au (show∀z,ai g g z->aj prog 262 #[m.tp,an ar tm,an ar (min (x.now+W) 1099511627776)] z λe w1=>e=ax (0:Int)/\qJ c m k.b xb x4 (setH y s ⟨ix,0,x.now,false⟩) τ w w1 fromλz G=>by
  rw[F];exact(C.o.below G).set Cv.o htb _ (by omega) (by omega))
 have HAS:=au (show∀z,qJ c m k.b xb x4 (setH y s ⟨ix,0,x.now,false⟩) τ w z->aj prog 261 #[m.cb,k.b,(s:Int),an ar (ix)] z.drew Q fromλz G=>by
  rw[HQ.o];exact(G.below ((aO _ _).drew)).ask Cv.o.may hs (ix) (by omega) (by omega) Wp.o.1 Wp.o.2 _ (by rw[abo.o,F,hW,abn.o];rfl))
 have HN4:=au (show x4.now=x.now by rw[F]);have K0:=au (show(g.drew.cell? m.cb=()/\g.drew.cell? ⟨m.cb,1,none⟩=m.uv/\g.drew.cell? ⟨m.cb,2,none⟩=c.workers/\g.drew.cell? ⟨m.cb,3,none⟩=c.copies/\g.drew.cell? ⟨m.cb,4,none⟩=c.slots/\g.drew.cell? ⟨m.cb,5,none⟩=c.batch/\g.drew.cell? ⟨m.cb,6,none⟩=c.aS/\g.drew.cell? ⟨m.cb,7,none⟩=c.dY/\g.drew.cell? ⟨m.cb,8,none⟩=c.first/\g.drew.cell? ⟨m.cb,9,none⟩=c.cap/\g.drew.cell? ⟨m.cb,10,none⟩=c.b_/\g.drew.cell? ⟨m.cb,11,none⟩=c.net/\g.drew.cell? ⟨m.cb,13,none⟩=x.now/\g.drew.cell? ⟨m.cb,16,none⟩=m.tp/\g.drew.cell? xb=m.cb/\g.drew.cell? ⟨k.b,6+s*4+1,none⟩=(0:Int))by
  obtain⟨d,Y,⟨-,a1,-,-⟩,-,-,-,-⟩:=(C.o.below ((aO _ _).drew)).rd (s:=s) M;rw[E.o]at a1;exact⟨d.c0,d.c1,d.c2,d.c3,d.c4,d.c5,d.c6,d.c7,d.c8,d.c9,d.c10,d.c11,d.c13,d.c16,Y,a1⟩)
 have HKB:=au (show∀z,ai g g z->(z.cell? m.cb=()/\z.cell? ⟨m.cb,1,none⟩=m.uv/\z.cell? ⟨m.cb,2,none⟩=c.workers/\z.cell? ⟨m.cb,3,none⟩=c.copies/\z.cell? ⟨m.cb,4,none⟩=c.slots/\z.cell? ⟨m.cb,5,none⟩=c.batch/\z.cell? ⟨m.cb,6,none⟩=c.aS/\z.cell? ⟨m.cb,7,none⟩=c.dY/\z.cell? ⟨m.cb,8,none⟩=c.first/\z.cell? ⟨m.cb,9,none⟩=c.cap/\z.cell? ⟨m.cb,10,none⟩=c.b_/\z.cell? ⟨m.cb,11,none⟩=c.net/\z.cell? ⟨m.cb,13,none⟩=x.now/\z.cell? ⟨m.cb,16,none⟩=m.tp/\z.cell? xb=m.cb/\z.cell? ⟨k.b,6+s*4+1,none⟩=(0:Int))fromλz G=>by
  obtain⟨d,Y,⟨-,a1,-,-⟩,-,-,-,-⟩:=(C.o.below G).rd (s:=s) M;rw[E.o]at a1;exact⟨d.c0,d.c1,d.c2,d.c3,d.c4,d.c5,d.c6,d.c7,d.c8,d.c9,d.c10,d.c11,d.c13,d.c16,Y,a1⟩)
 have HS6:=au (show∀z,qJ c m k.b xb x4 (setH y s ⟨ix,0,x.now,false⟩) τ w z->(z.cell? m.cb=()/\z.cell? ⟨m.cb,1,none⟩=m.uv/\z.cell? ⟨m.cb,2,none⟩=c.workers/\z.cell? ⟨m.cb,3,none⟩=c.copies/\z.cell? ⟨m.cb,4,none⟩=c.slots/\z.cell? ⟨m.cb,5,none⟩=c.batch/\z.cell? ⟨m.cb,6,none⟩=c.aS/\z.cell? ⟨m.cb,7,none⟩=c.dY/\z.cell? ⟨m.cb,8,none⟩=c.first/\z.cell? ⟨m.cb,9,none⟩=c.cap/\z.cell? ⟨m.cb,10,none⟩=c.b_/\z.cell? ⟨m.cb,11,none⟩=c.net/\z.cell? ⟨m.cb,13,none⟩=x.now/\z.cell? ⟨m.cb,16,none⟩=m.tp/\z.cell? xb=m.cb/\z.cell? ⟨k.b,6+s*4+1,none⟩=(0:Int))fromλz G=>by
  obtain⟨d,Y,⟨-,a1,-,-⟩,-,-,-,-⟩:=G.rd (s:=s) M;rw[E.o]at a1;rw[HN4.o]at d;exact⟨d.c0,d.c1,d.c2,d.c3,d.c4,d.c5,d.c6,d.c7,d.c8,d.c9,d.c10,d.c11,d.c13,d.c16,Y,a1⟩)
 have Yv:=au (show∀z,qJ c m k.b xb x4 (setH y s ⟨ix,0,x.now,false⟩) τ w z->z.cell? xb=m.cb/\z.cell? ⟨k.b,6+s*4,none⟩=(ix:Int)/\m.cb<z.heap.size/\k.b<z.heap.size/\xb<z fromλz G=>by
  obtain⟨d,Y,⟨a0,-,-,-⟩,-,p1,p2,p3⟩:=G.rd (s:=s) M;rw[E.o]at a0;exact⟨Y,a0,p1,p2,p3⟩)
 have⟨S4,hS4⟩:=aD (qJ c m k.b xb x4 (setH y s ⟨ix,0,x.now,false⟩) τ w);rw[<-hS4]at HST HAS HS6 Yv;obtain⟨-,-,-,-,aj3,aj4,aj5⟩:=C.o.rd (s:=s) M;clear hS4 hW F wb;go_region_held3 (λw'=>(w'.cell? m.cb=()/\w'.cell? ⟨m.cb,1,none⟩=m.uv/\w'.cell? ⟨m.cb,2,none⟩=c.workers/\w'.cell? ⟨m.cb,3,none⟩=c.copies/\w'.cell? ⟨m.cb,4,none⟩=c.slots/\w'.cell? ⟨m.cb,5,none⟩=c.batch/\w'.cell? ⟨m.cb,6,none⟩=c.aS/\w'.cell? ⟨m.cb,7,none⟩=c.dY/\w'.cell? ⟨m.cb,8,none⟩=c.first/\w'.cell? ⟨m.cb,9,none⟩=c.cap/\w'.cell? ⟨m.cb,10,none⟩=c.b_/\w'.cell? ⟨m.cb,11,none⟩=c.net/\w'.cell? ⟨m.cb,13,none⟩=x.now/\w'.cell? ⟨m.cb,16,none⟩=m.tp/\w'.cell? xb=m.cb/\w'.cell? ⟨k.b,6+s*4+1,none⟩=(0:Int))) (first|(with_reducible exact K0.o)|(with_reducible exact K1.o)|(with_reducible exact K2.o)) (first
  |(go_at_call 263;refine(Mi.o _).mono ?_;rintro e y4 ⟨rfl,hy4⟩;have Nx:=au ((aO g g).drew.trans hy4);have K1:=au (HKB.o y4 Nx.o);clear hy4)
  |(go_at_call 262;refine(HST.o _ Nx.o).mono ?_;rintro e y5 ⟨rfl,Z⟩;have K2:=au (HS6.o y5 Z);have S5:=au Z;clear Z))
 have⟨w0,w1,w2,w3,w4⟩:=Yv.o y5 S5.o;have HAK:=au (HAS.o y5 S5.o);go_upto_region 15 with fail
 go_still_tail 7,(by kernel_rfl)
 go_wp2_with fail
 refine HAK.m ?_;intro e y6 hr;obtain⟨v,rfl⟩:=QI.o e y6 hr;have HF:=au hr;clear hr;go_wp2;exact HF.o
def abr{k:jd}{s:Nat}(f:s<k.y.sh.length)(e a:Int)(i:w.heap[k.b]? =some (aB k.cells.toArray 184 (0,0))):
 ((w.setCell ⟨k.b,6+s*4+1,none⟩ a).setCell ⟨k.b,6+s*4,none⟩ e).heap[k.b]? =some (aB (k.hs s ⟨e,a,(k.y.sh.getD s ()).first,(k.y.sh.getD s ()).cZ⟩).cells.toArray 184 (0,0)):=by
 have⟨d,g⟩:=aD (k.y.sh.getD s ());rw[<-g];have l:=pT (w:=w) f ⟨d.turn,a,d.first,d.cZ⟩ (j:=1) (u:=an ar a) (by decide) i (by rw[<-g];rfl);have m:(k.hs s ⟨d.turn,a,d.first,d.cZ⟩).y.sh.getD s ()=⟨d.turn,a,d.first,d.cZ⟩:=lP f _;have n:s<(k.hs s ⟨d.turn,a,d.first,d.cZ⟩).y.sh.length:=by show s<(k.y.sh.set s _).length;simpa using f
 have h:=pT (k:=k.hs s ⟨d.turn,a,d.first,d.cZ⟩) n ⟨e,a,d.first,d.cZ⟩ (j:=0) (u:=an ar e) (by decide) l (by rw[m];rfl);rw[Pn]at h;exact h
def Yw{m:jG}{x:cB}{y:ej}{B:Int}(h:cJ c τ w m (x.put y)){k:jd}(hk:k∈m.qs)(hy:k.y=y)(l:cI c B x)(n:iH c B x y)(hB:B<=900000){s:Nat}(hs:s<(aZ c).toNat)(g:Int)(ht:y.text.size<=maxLen)(O:(jl y.ss s).1.2.size<=maxLen){a:Int}(hT:x.T (bY y.slot s)=some a)(ha:a<=x.now):
 aj prog 250 #[m.cb,k.b,(s:Int),(g:Int)] w (Rm c m.cb k.b (cL c x y s g) τ w):=by
 have hsv:=cW c;have⟨sl0,sl1,sl2,sl3⟩:=n.slot l.sl;have sl4:=l.four;have U:=pf l n hs;have hsb:=A0 n (s:=s) (by omega);have n0:=l.n0;have n1:=l.n1;have⟨u,hu⟩:=aD (w.alloc (aB #[m.cb] 60 (0,0)));have⟨b1,bg,bl⟩:=dt hu;have⟨g1,g2⟩:=h.same bg.aJ .keep;have⟨tm,p⟩:=aD (bY y.slot s);have X6:=au (show∀z,aj prog 125 #[y.slot,(s:Int)] z λe w'=>e=ax tm/\z=w' fromλz=>p▸nR y.slot s z sl0 (by omega) (by omega) (by omega));rw[<-p]at U;have⟨H,I⟩:=aK (show aj prog 256 #[m.tp,an ar tm] u λe w'=>e=ax (aM #[an ar ((x.T tm).getD 0),aw (x.T tm).isSome])/\ai u u w' from Ay g1.i.a tm) (qJ.of g1 hk hy g2 b1 (d_ (aP _)));have⟨xb,J⟩:=aD w.heap.size;have HXB:=au J;rw[<-J]at I bl;have Cw:=au bg.aJ;obtain⟨uc,ux0,-,-,ucl,ukl,uxl⟩:=I.o.rd (s:=s) (by omega);have u16:=uc.c16;obtain⟨-,uq1,-,-,-,-,-⟩:=(g1.q.r k hk).cells';rw[hy]at uq1;have V:=au l;have⟨Q,hQ⟩:=aD (Rm c m.cb k.b (cL c x y s g) τ w);rw[<-hQ];have HQ:=au hQ;have⟨QI,HU⟩:=aK (show∀e y,Q e y->∃v,e=ax v fromλe y hh=>by rw[HQ.o]at hh;obtain⟨v,q1,_⟩:=hh;exact⟨v,q1⟩) hu;have z1:(0:Int)<=(s:Int):=by omega
 have z2:(s:Int)<6:=by omega
 have M:s<6:=by omega
 have⟨X,Y⟩:=aK (And.intro ht O) (show s<y.sh.length by rw[n.hl];omega);have⟨d,t⟩:=aD (y.sh.getD s ());have⟨Z,abn⟩:=aK t p;rw[<-t]at hsb;have abo:=au (show cL c x y s g=({x with T:=(pd (x.T,x.tn) (bY y.slot s) (min (x.now+kC c.first c.cap c.b_ (mi d.kU) g) 1099511627776)).1,tn:=(pd (x.T,x.tn) (bY y.slot s) (min (x.now+kC c.first c.cap c.b_ (mi d.kU) g) 1099511627776)).2},setH y s ⟨d.turn+1,mi d.kU,d.first,d.cZ⟩,kD c x y s (d.turn+1))by
  unfold cL;simp only[hT];rw[aI ha,t])
 rw[<-p]at hT;rw[hT]at H;simp only[Option.getD_some,Option.isSome_some]at H;have HTY:=au (λz=>aie d.kU z);have wt:IntKind.i64.wrap (d.turn+1)=d.turn+1:=IntWalk.i64_in _ (by omega);clear hT p hQ hu J t bg b1 g1 g2 uc n l hk hy ht O h;go_in;go_upto_region 1 with fail
 rw[<-HU.o,<-HXB.o];go_wp2_with fail
 refine aH (X6.o _) ?_;go_wp2_with fail
 refine H.m ?_;rintro e y1 ⟨rfl,hy1⟩;have Ml:=au (I.o.below hy1);have⟨vc,vx0,⟨Yt,Yu,Ky,va3⟩,vf,vcl,vkl,vxl⟩:=Ml.o.rd (s:=s) M;have v13:=vc.c13;rw[<-Z.o]at Yt Yu Ky va3;have⟨j,A⟩:=aD ((y1.setCell ⟨k.b,6+s*4+1,none⟩ (mi d.kU:Int)).setCell ⟨k.b,6+s*4,none⟩ (d.turn+1:Int));have C:=au (show qJ c m k.b xb x (setH y s ⟨d.turn+1,mi d.kU,d.first,d.cZ⟩) τ w j by
  refine Ml.o.store ⟨d.turn+1,mi d.kU,d.first,d.cZ⟩ (by rw[A];exact((aQ.refl [k.b] y1).setCell _ (by simp) _).setCell _ (by simp) _) (λk' ek ey hc=> ?_);have hb:=abr (w:=y1) (s:=s) (k:=k') (by rw[ey];exact Y.o) (d.turn+1) (mi d.kU) hc;rw[ey,<-Z.o]at hb;rw[A,<-ek];exact hb)
 have SE:=au A;clear A hy1 vc;go_wp2_with fail
 refine aH (HTY.o _) ?_;go_upto_region 14 with fail
 rw[<-SE.o];clear Yt Yu Ky va3 vf v13 vx0;have E:=au (show(setH y s ⟨d.turn+1,mi d.kU,d.first,d.cZ⟩).sh.getD s ()=⟨d.turn+1,mi d.kU,d.first,d.cZ⟩from lP Y.o _);have wb:=PD c.first c.cap c.b_ (mi d.kU) g;have Mi:=au (show∀z,aj prog 263 #[aG #[(),m.uv,c.workers,c.copies,c.slots,c.batch,c.aS,c.dY,c.first,c.cap,c.b_,c.net],an ar (mi d.kU),an ar g] z λe w'=>e=ax (kC c.first c.cap c.b_ (mi d.kU) g:Int)/\ai z z w' fromλz=>Zj _ _ _ _ _ _ _ _ c.first c.cap c.b_ c.net (mi d.kU) g z);have⟨W,hW⟩:=aD (kC c.first c.cap c.b_ (mi d.kU) g);rw[<-hW]at Mi wb;have wl:IntKind.i64.wrap (x.now+W)=x.now+W:=IntWalk.i64_in _ (by omega);have⟨N,F⟩:= @aD cB ({x with T:=(pd (x.T,x.tn) tm (min (x.now+W) 1099511627776)).1,tn:=(pd (x.T,x.tn) tm (min (x.now+W) 1099511627776)).2});have HST:=au (show∀z,ai j j z->aj prog 262 #[m.tp,an ar tm,an ar (min (x.now+W) 1099511627776)] z λe w1=>e=ax (0:Int)/\qJ c m k.b xb N (setH y s ⟨d.turn+1,mi d.kU,d.first,d.cZ⟩) τ w w1 fromλz G=>by
  rw[F];exact(C.o.below G).set V.o U _ (by omega) (by omega))
 have HAS:=au (show∀z,qJ c m k.b xb N (setH y s ⟨d.turn+1,mi d.kU,d.first,d.cZ⟩) τ w z->aj prog 261 #[m.cb,k.b,(s:Int),an ar (d.turn+1)] z.drew Q fromλz G=>by
  rw[HQ.o];exact(G.below ((aO _ _).drew)).ask V.o.may hs (d.turn+1) (by omega) (by omega) X.o.1 X.o.2 _ (by rw[abo.o,F,hW,abn.o];rfl))
 have HN4:=au (show N.now=x.now by rw[F]);have K0:=au (show(j.drew.cell? m.cb=()/\j.drew.cell? ⟨m.cb,1,none⟩=m.uv/\j.drew.cell? ⟨m.cb,2,none⟩=c.workers/\j.drew.cell? ⟨m.cb,3,none⟩=c.copies/\j.drew.cell? ⟨m.cb,4,none⟩=c.slots/\j.drew.cell? ⟨m.cb,5,none⟩=c.batch/\j.drew.cell? ⟨m.cb,6,none⟩=c.aS/\j.drew.cell? ⟨m.cb,7,none⟩=c.dY/\j.drew.cell? ⟨m.cb,8,none⟩=c.first/\j.drew.cell? ⟨m.cb,9,none⟩=c.cap/\j.drew.cell? ⟨m.cb,10,none⟩=c.b_/\j.drew.cell? ⟨m.cb,11,none⟩=c.net/\j.drew.cell? ⟨m.cb,13,none⟩=x.now/\j.drew.cell? ⟨m.cb,16,none⟩=m.tp/\j.drew.cell? xb=m.cb/\j.drew.cell? ⟨k.b,6+s*4+1,none⟩=(mi d.kU:Int))by
  obtain⟨f,K,⟨-,a1,-,-⟩,-,-,-,-⟩:=(C.o.below ((aO _ _).drew)).rd (s:=s) M;rw[E.o]at a1;exact⟨f.c0,f.c1,f.c2,f.c3,f.c4,f.c5,f.c6,f.c7,f.c8,f.c9,f.c10,f.c11,f.c13,f.c16,K,a1⟩)
 have HKB:=au (show∀z,ai j j z->(z.cell? m.cb=()/\z.cell? ⟨m.cb,1,none⟩=m.uv/\z.cell? ⟨m.cb,2,none⟩=c.workers/\z.cell? ⟨m.cb,3,none⟩=c.copies/\z.cell? ⟨m.cb,4,none⟩=c.slots/\z.cell? ⟨m.cb,5,none⟩=c.batch/\z.cell? ⟨m.cb,6,none⟩=c.aS/\z.cell? ⟨m.cb,7,none⟩=c.dY/\z.cell? ⟨m.cb,8,none⟩=c.first/\z.cell? ⟨m.cb,9,none⟩=c.cap/\z.cell? ⟨m.cb,10,none⟩=c.b_/\z.cell? ⟨m.cb,11,none⟩=c.net/\z.cell? ⟨m.cb,13,none⟩=x.now/\z.cell? ⟨m.cb,16,none⟩=m.tp/\z.cell? xb=m.cb/\z.cell? ⟨k.b,6+s*4+1,none⟩=(mi d.kU:Int))fromλz G=>by
  obtain⟨f,K,⟨-,a1,-,-⟩,-,-,-,-⟩:=(C.o.below G).rd (s:=s) M;rw[E.o]at a1;exact⟨f.c0,f.c1,f.c2,f.c3,f.c4,f.c5,f.c6,f.c7,f.c8,f.c9,f.c10,f.c11,f.c13,f.c16,K,a1⟩)
 have HS6:=au (show∀z,qJ c m k.b xb N (setH y s ⟨d.turn+1,mi d.kU,d.first,d.cZ⟩) τ w z->(z.cell? m.cb=()/\z.cell? ⟨m.cb,1,none⟩=m.uv/\z.cell? ⟨m.cb,2,none⟩=c.workers/\z.cell? ⟨m.cb,3,none⟩=c.copies/\z.cell? ⟨m.cb,4,none⟩=c.slots/\z.cell? ⟨m.cb,5,none⟩=c.batch/\z.cell? ⟨m.cb,6,none⟩=c.aS/\z.cell? ⟨m.cb,7,none⟩=c.dY/\z.cell? ⟨m.cb,8,none⟩=c.first/\z.cell? ⟨m.cb,9,none⟩=c.cap/\z.cell? ⟨m.cb,10,none⟩=c.b_/\z.cell? ⟨m.cb,11,none⟩=c.net/\z.cell? ⟨m.cb,13,none⟩=x.now/\z.cell? ⟨m.cb,16,none⟩=m.tp/\z.cell? xb=m.cb/\z.cell? ⟨k.b,6+s*4+1,none⟩=(mi d.kU:Int))fromλz G=>by
  obtain⟨f,K,⟨-,a1,-,-⟩,-,-,-,-⟩:=G.rd (s:=s) M;rw[E.o]at a1;rw[HN4.o]at f;exact⟨f.c0,f.c1,f.c2,f.c3,f.c4,f.c5,f.c6,f.c7,f.c8,f.c9,f.c10,f.c11,f.c13,f.c16,K,a1⟩)
 have Yv:=au (show∀z,qJ c m k.b xb N (setH y s ⟨d.turn+1,mi d.kU,d.first,d.cZ⟩) τ w z->z.cell? xb=m.cb/\z.cell? ⟨k.b,6+s*4,none⟩=(d.turn+1:Int)/\m.cb<z.heap.size/\k.b<z.heap.size/\xb<z fromλz G=>by
  obtain⟨f,K,⟨a0,-,-,-⟩,-,p1,p2,p3⟩:=G.rd (s:=s) M;rw[E.o]at a0;exact⟨K,a0,p1,p2,p3⟩)
 have⟨S4,hS4⟩:=aD (qJ c m k.b xb N (setH y s ⟨d.turn+1,mi d.kU,d.first,d.cZ⟩) τ w);rw[<-hS4]at HST HAS HS6 Yv;obtain⟨-,-,-,-,aj3,aj4,aj5⟩:=C.o.rd (s:=s) M;clear hS4 hW F wb;go_region_held3 (λw'=>(w'.cell? m.cb=()/\w'.cell? ⟨m.cb,1,none⟩=m.uv/\w'.cell? ⟨m.cb,2,none⟩=c.workers/\w'.cell? ⟨m.cb,3,none⟩=c.copies/\w'.cell? ⟨m.cb,4,none⟩=c.slots/\w'.cell? ⟨m.cb,5,none⟩=c.batch/\w'.cell? ⟨m.cb,6,none⟩=c.aS/\w'.cell? ⟨m.cb,7,none⟩=c.dY/\w'.cell? ⟨m.cb,8,none⟩=c.first/\w'.cell? ⟨m.cb,9,none⟩=c.cap/\w'.cell? ⟨m.cb,10,none⟩=c.b_/\w'.cell? ⟨m.cb,11,none⟩=c.net/\w'.cell? ⟨m.cb,13,none⟩=x.now/\w'.cell? ⟨m.cb,16,none⟩=m.tp/\w'.cell? xb=m.cb/\w'.cell? ⟨k.b,6+s*4+1,none⟩=(mi d.kU:Int))) (first|(with_reducible exact K0.o)|(with_reducible exact K1.o)|(with_reducible exact K2.o)) (first
  |(go_at_call 263;refine(Mi.o _).mono ?_;rintro e y4 ⟨rfl,hy4⟩;have Nx:=au ((aO j j).drew.trans hy4);have K1:=au (HKB.o y4 Nx.o);clear hy4)
  |(go_at_call 262;refine(HST.o _ Nx.o).mono ?_;rintro e y5 ⟨rfl,L⟩;have K2:=au (HS6.o y5 L);have S5:=au L;clear L))
 have⟨w0,w1,w2,w3,w4⟩:=Yv.o y5 S5.o;have HAK:=au (HAS.o y5 S5.o);go_upto_region 15 with fail
 go_still_tail 7,(by kernel_rfl)
 go_wp2_with fail
 refine HAK.m ?_;intro e y6 hr;obtain⟨v,rfl⟩:=QI.o e y6 hr;have HF:=au hr;clear hr;go_wp2;exact HF.o
def qJ.nil{b xb:Nat}{u:ae}(h:qJ c m b xb x y τ w u):Rm c m.cb b (x,y,[]) τ w (ax ()) u:=by
 obtain⟨a,e,f,g,i,j,d,k,l,n,o,p,q⟩:=h;exact⟨_,rfl,a,e,f,gK.nil _ _,g,i,k,l,n,o⟩
def Rn{B:Int}(h:cJ c τ w m (x.put y)){k:jd}(hk:k∈m.qs)(hy:k.y=y)(f:cI c B x)(l:iH c B x y)(hB:B<=900000){s:Nat}(hs:s<(aZ c).toNat)(g:Int)(ht:y.text.size<=maxLen)(I:(jl y.ss s).1.2.size<=maxLen){a:Int}(hT:x.T (bY y.slot s)=some a)(ha:¬a<=x.now)(A:(y.sh.getD s ()).cZ=false)(hg:c.dY<=x.now-(y.sh.getD s ()).first):
 aj prog 250 #[m.cb,k.b,(s:Int),(g:Int)] w (Rm c m.cb k.b (cL c x y s g) τ w):=by
 have hsv:=cW c;have⟨sl0,sl1,sl2,sl3⟩:=l.slot f.sl;have sl4:=f.four;have htb:=pf f l hs;have hsb:=A0 l (s:=s) (by omega);have n0:=f.n0;have n1:=f.n1;have⟨u,hu⟩:=aD (w.alloc (aB #[m.cb] 60 (0,0)));have⟨b1,bg,bl⟩:=dt hu;have⟨g1,g2⟩:=h.same bg.aJ .keep;have⟨J,p⟩:=aD (bY y.slot s);have X6:=au (show∀z,aj prog 125 #[y.slot,(s:Int)] z λe w'=>e=ax J/\z=w' fromλz=>p▸nR y.slot s z sl0 (by omega) (by omega) (by omega));rw[<-p]at htb;have⟨C,E⟩:=aK (show aj prog 256 #[m.tp,an ar J] u λe w'=>e=ax (aM #[an ar ((x.T J).getD 0),aw (x.T J).isSome])/\ai u u w' from Ay g1.i.a J) (qJ.of g1 hk hy g2 b1 (d_ (aP _)));have⟨xb,F⟩:=aD w.heap.size;have HXB:=au F;rw[<-F]at E bl;have Cw:=au bg.aJ;obtain⟨uc,ux0,-,-,ucl,ukl,uxl⟩:=E.o.rd (s:=s) (by omega);have u16:=uc.c16;obtain⟨-,uq1,-,-,-,-,-⟩:=(g1.q.r k hk).cells';rw[hy]at uq1;have Cv:=au f;have⟨Q,hQ⟩:=aD (Rm c m.cb k.b (cL c x y s g) τ w);rw[<-hQ];have HQ:=au hQ;have⟨QI,HU⟩:=aK (show∀e y,Q e y->∃v,e=ax v fromλe y A=>by rw[HQ.o]at A;obtain⟨v,q1,_⟩:=A;exact⟨v,q1⟩) hu;have z1:(0:Int)<=(s:Int):=by omega
 have z2:(s:Int)<6:=by omega
 have z3:s<6:=by omega
 have⟨K,L⟩:=aK (And.intro ht I) (show s<y.sh.length by rw[l.hl];omega);have⟨d,n⟩:=aD (y.sh.getD s ());have G:=au n;rw[<-n]at hsb;rw[<-n]at A hg;have M:=au (show cL c x y s g=(x,setH y s ⟨d.turn,d.kU,d.first,true⟩,kD c x y s (d.turn+1))by
  unfold cL;simp only[hT];rw[aC ha,<-n,aI ⟨A,hg⟩])
 rw[<-p]at hT;rw[hT]at C;simp only[Option.getD_some,Option.isSome_some]at C;have wt:d.turn+1<=1000000:=by omega
 have na:x.now<a:=by omega
 clear ha;clear hT p hQ hu F n bg b1 g1 g2 uc l f hk hy ht I h;go_in;go_upto_region 1 with fail
 rw[<-HU.o,<-HXB.o];go_wp2_with fail
 refine aH (X6.o _) ?_;go_wp2_with fail
 refine C.m ?_;rintro e y1 ⟨rfl,N⟩;have O:=au (E.o.below N);have⟨vc,vx0,⟨U,V,W,H⟩,vf,vcl,vkl,vxl⟩:=O.o.rd (s:=s) z3;have v13:=vc.c13;rw[<-G.o]at U V W H;rw[A]at H;have v7:=vc.c7;clear vc A;go_upto_region 11 with fail
 go_quiet (fail);generalize hZ:World.drewN y1 _=z;have hz:ai y1 y1 z:=by rw[<-hZ];exact(bo y1 _).aJ
 have X:=au (O.o.below hz);have⟨tc,tx0,⟨Y,Z,ta2,ta3⟩,tf,tcl,tkl,txl⟩:=X.o.rd (s:=s) z3;rw[<-G.o]at Y Z ta2 ta3;have⟨y3,t⟩:=aD (z.setCell ⟨k.b,6+s*4+3,none⟩ (aw true));have HW3:=au (show qJ c m k.b xb x (setH y s ⟨d.turn,d.kU,d.first,true⟩) τ w y3 by
  refine X.o.store ⟨d.turn,d.kU,d.first,true⟩ (by rw[t];exact(aQ.refl [k.b] z).setCell _ (by simp) _) (λk' ek ey hc=> ?_);have hb:=pT (w:=z) (s:=s) (k:=k') (by rw[ey];exact L.o) ⟨d.turn,d.kU,d.first,true⟩ (j:=3) (u:=aw true) (by decide) hc (by rw[ey,<-G.o];rfl);rw[t,<-ek];exact hb)
 have SE:=au t;clear t N hZ hz tc U V W H vf v13 vx0 v7 hg na vcl vkl vxl;have HAK:=au (show aj prog 261 #[m.cb,k.b,(s:Int),an ar (d.turn+1)] y3.drew Q by
  rw[HQ.o];exact(HW3.o.below ((aO _ _).drew)).ask Cv.o.may hs (d.turn+1) (by omega) (by omega) K.o.1 K.o.2 _ (by rw[M.o];rfl))
 have HYS:=au (show(setH y s ⟨d.turn,d.kU,d.first,true⟩).sh.getD s ()=⟨d.turn,d.kU,d.first,true⟩from lP L.o _);obtain⟨-,sx0,⟨sa0,-,-,-⟩,-,scl,skl,sxl⟩:=HW3.o.rd (s:=s) z3;rw[HYS.o]at sa0;simp only at sa0;have wl:IntKind.i64.wrap (d.turn+1)=d.turn+1:=IntWalk.i64_in _ (by omega);go_upto_region 13 with fail
 rw[<-SE.o];clear Y Z ta2 ta3 tf tx0
 go_still_tail 8,(by kernel_rfl)
 go_wp2_with fail
 refine HAK.m ?_;intro e y6 hr;obtain⟨v,rfl⟩:=QI.o e y6 hr;have HF:=au hr;clear hr;go_wp2;exact HF.o
def Ro{B:Int}(h:cJ c τ w m (x.put y)){k:jd}(I:k∈m.qs)(J:k.y=y)(g:cI c B x)(j:iH c B x y)(hB:B<=900000){s:Nat}(hs:s<(aZ c).toNat)(d:Int)(ht:y.text.size<=maxLen)(K:(jl y.ss s).1.2.size<=maxLen){a:Int}(F:x.T (bY y.slot s)=some a)(ha:¬a<=x.now)(G:(y.sh.getD s ()).cZ=true):
 aj prog 250 #[m.cb,k.b,(s:Int),(d:Int)] w (Rm c m.cb k.b (cL c x y s d) τ w):=by
 have hsv:=cW c;have⟨L,sl1,sl2,sl3⟩:=j.slot g.sl;have sl4:=g.four;have M:=pf g j hs;have N:=A0 j (s:=s) (by omega);have⟨u,O⟩:=aD (w.alloc (aB #[m.cb] 60 (0,0)));have⟨b1,U,bl⟩:=dt O;have⟨H,g2⟩:=h.same U.aJ .keep;have⟨v,l⟩:=aD (bY y.slot s);have V:=au (show∀z,aj prog 125 #[y.slot,(s:Int)] z λe w'=>e=ax v/\z=w' fromλz=>l▸nR y.slot s z L (by omega) (by omega) (by omega));rw[<-l]at M;have⟨n,p⟩:=aK (show aj prog 256 #[m.tp,an ar v] u λe w'=>e=ax (aM #[an ar ((x.T v).getD 0),aw (x.T v).isSome])/\ai u u w' from Ay H.i.a v) (qJ.of H I J g2 b1 (d_ (aP _)));have⟨xb,t⟩:=aD w.heap.size;have W:=au t;rw[<-t]at p bl;have Cw:=au U.aJ;obtain⟨uc,ux0,-,-,ucl,ukl,uxl⟩:=p.o.rd (s:=s) (by omega);have u16:=uc.c16;obtain⟨-,X,-,-,-,-,-⟩:=(H.q.r k I).cells';rw[J]at X;have⟨Q,Y⟩:=aD (Rm c m.cb k.b (cL c x y s d) τ w);rw[<-Y];have⟨HQ,HU⟩:=aK Y O;have z1:(0:Int)<=(s:Int):=by omega
 have z2:(s:Int)<6:=by omega
 have z3:s<6:=by omega
 have⟨h0,f⟩:=aD (y.sh.getD s ());have Z:=au f;rw[<-f]at N;rw[<-f]at G;have A:=au (show cL c x y s d=(x,y,[])by
  unfold cL;simp only[F];rw[aC ha,<-f,aC (by rintro⟨e1,e2⟩;rw[G]at e1;cases e1)])
 rw[<-l]at F;rw[F]at n;simp only[Option.getD_some,Option.isSome_some]at n;have na:x.now<a:=by omega
 clear ha;clear F l Y O t f U b1 H g2 uc j g I J ht K h;go_in;go_upto_region 1 with fail
 rw[<-HU.o,<-W.o];go_wp2_with fail
 refine aH (V.o _) ?_;go_wp2_with fail
 refine n.m ?_;rintro e y1 ⟨rfl,hy1⟩;have C:=au (p.o.below hy1);have⟨vc,vx0,⟨Yt,Yu,Ky,E⟩,vf,vcl,vkl,vxl⟩:=C.o.rd (s:=s) z3;have v13:=vc.c13;rw[<-Z.o]at Yt Yu Ky E;rw[G]at E;clear vc G;have HE:=au (show∀z,ai y1 y1 z->Q (ax ()) z fromλz hz=>by
  rw[HQ.o,A.o];exact(C.o.below hz).nil)
 go_upto_region 11 with fail
 have HF:=au (HE.o y1.drew ((aO _ _).drew));go_region
 go_wp2;exact HF.o
def Rp{B:Int}(h:cJ c τ w m (x.put y)){k:jd}(I:k∈m.qs)(J:k.y=y)(f:cI c B x)(j:iH c B x y)(hB:B<=900000){s:Nat}(hs:s<(aZ c).toNat)(d:Int)(ht:y.text.size<=maxLen)(K:(jl y.ss s).1.2.size<=maxLen){a:Int}(F:x.T (bY y.slot s)=some a)(ha:¬a<=x.now)(L:(y.sh.getD s ()).cZ=false)(hg:x.now-(y.sh.getD s ()).first<c.dY):
 aj prog 250 #[m.cb,k.b,(s:Int),(d:Int)] w (Rm c m.cb k.b (cL c x y s d) τ w):=by
 have hsv:=cW c;have⟨M,sl1,sl2,sl3⟩:=j.slot f.sl;have sl4:=f.four;have N:=pf f j hs;have O:=A0 j (s:=s) (by omega);have n0:=f.n0;have n1:=f.n1;have⟨u,U⟩:=aD (w.alloc (aB #[m.cb] 60 (0,0)));have⟨b1,V,bl⟩:=dt U;have⟨G,g2⟩:=h.same V.aJ .keep;have⟨v,l⟩:=aD (bY y.slot s);have W:=au (show∀z,aj prog 125 #[y.slot,(s:Int)] z λe w'=>e=ax v/\z=w' fromλz=>l▸nR y.slot s z M (by omega) (by omega) (by omega));rw[<-l]at N;have⟨n,p⟩:=aK (show aj prog 256 #[m.tp,an ar v] u λe w'=>e=ax (aM #[an ar ((x.T v).getD 0),aw (x.T v).isSome])/\ai u u w' from Ay G.i.a v) (qJ.of G I J g2 b1 (d_ (aP _)));have⟨xb,t⟩:=aD w.heap.size;have X:=au t;rw[<-t]at p bl;have Cw:=au V.aJ;obtain⟨uc,ux0,-,-,ucl,ukl,uxl⟩:=p.o.rd (s:=s) (by omega);have u16:=uc.c16;obtain⟨-,Y,-,-,-,-,-⟩:=(G.q.r k I).cells';rw[J]at Y;have⟨Q,Z⟩:=aD (Rm c m.cb k.b (cL c x y s d) τ w);rw[<-Z];have⟨HQ,HU⟩:=aK Z U;have z1:(0:Int)<=(s:Int):=by omega
 have z2:(s:Int)<6:=by omega
 have z3:s<6:=by omega
 have⟨h0,g⟩:=aD (y.sh.getD s ());have HH0:=au g;rw[<-g]at O;rw[<-g]at L hg;have A:=au (show cL c x y s d=(x,y,[])by
  unfold cL;simp only[F];rw[aC ha,<-g,aC (by rintro⟨e1,e2⟩;omega)])
 rw[<-l]at F;rw[F]at n;simp only[Option.getD_some,Option.isSome_some]at n;have na:x.now<a:=by omega
 clear ha;clear F l Z U t g V b1 G g2 uc j f I J ht K h;go_in;go_upto_region 1 with fail
 rw[<-HU.o,<-X.o];go_wp2_with fail
 refine aH (W.o _) ?_;go_wp2_with fail
 refine n.m ?_;rintro e H ⟨rfl,hy1⟩;have C:=au (p.o.below hy1);have⟨vc,vx0,⟨Yt,Yu,Ky,E⟩,vf,vcl,vkl,vxl⟩:=C.o.rd (s:=s) z3;have v13:=vc.c13;rw[<-HH0.o]at Yt Yu Ky E;rw[L]at E;have v7:=vc.c7;clear vc L;have HE:=au (show∀z,ai H H z->Q (ax ()) z fromλz hz=>by
  rw[HQ.o,A.o];exact(C.o.below hz).nil)
 go_upto_region 11 with fail
 go_quiet (fail);generalize hZ:World.drewN H _=z;have HF:=au (HE.o z (by rw[<-hZ];exact(bo H _).aJ));clear hZ;go_wp2;exact HF.o
def Yx{m:jG}{x:cB}{y:ej}{B:Int}(h:cJ c τ w m (x.put y)){k:jd}(i:k∈m.qs)(j:k.y=y)(e:cI c B x)(f:iH c B x y)(l:B<=900000){s:Nat}(n:s<(aZ c).toNat)(d:Int)(o:y.text.size<=maxLen)(g:(jl y.ss s).1.2.size<=maxLen):
 aj prog 250 #[m.cb,k.b,(s:Int),(d:Int)] w (Rm c m.cb k.b (cL c x y s d) τ w):=by
 cases hT:x.T (bY y.slot s)with
 |none=>exact Vd h i j e f l n d o g hT
 |some a=>
  by_cases p:a<=x.now
  .exact Yw h i j e f l n d o g hT p
  .cases hh:(y.sh.getD s ()).cZ
   .by_cases q:c.dY<=x.now-(y.sh.getD s ()).first
    .exact Rn h i j e f l n d o g hT p hh q
    .exact Rp h i j e f l n d o g hT p hh (by omega)
   .exact Ro h i j e f l n d o g hT p hh
def Rq(x:cB)(y:ej)(s:Nat)(a:Int):(cL c x y s a).2.1.id=y.id/\(cL c x y s a).2.1.ss=y.ss/\(cL c x y s a).2.1.text=y.text/\(cL c x y s a).2.1.mt=y.mt/\(cL c x y s a).2.1.n=y.n:=by
 unfold cL;simp only;split
 .exact⟨rfl,rfl,rfl,rfl,rfl⟩
 .split
  .exact⟨rfl,rfl,rfl,rfl,rfl⟩
  .split
   .exact⟨rfl,rfl,rfl,rfl,rfl⟩
   .exact⟨rfl,rfl,rfl,rfl,rfl⟩
def rr(x:cB)(y:ej)(s:Nat)(a:Int):(kD c x y s a).length<=1/\∀l∈kD c x y s a,∀r,l.m≠.dj r:=by
 unfold kD;simp only;split
 .simp
 .simp
def xA(x:cB)(y:ej)(s:Nat)(a:Int):(cL c x y s a).2.2.length<=1/\∀l∈(cL c x y s a).2.2,∀r,l.m≠.dj r:=by
 unfold cL;simp only;split
 .exact rr _ _ _ _
 .split
  .exact rr _ _ _ _
  .split
   .exact rr _ _ _ _
   .simp
def fq(c:aV)(draw:Int)(x:cB)(y:ej)(l:List fF)(ws:List Int)(k:Nat):cB×ej×List fF:=dL c draw (ws.take k) x y l
def Bc(b:Int):∀(ws:List Int) (x:cB) (y:ej) (l:List fF) (s:Int),dL c b (ws++ [s]) x y l=
 ((cL c (dL c b ws x y l).1 (dL c b ws x y l).2.1 s.toNat b).1,(cL c (dL c b ws x y l).1 (dL c b ws x y l).2.1 s.toNat b).2.1,(dL c b ws x y l).2.2++(cL c (dL c b ws x y l).1 (dL c b ws x y l).2.1 s.toNat b).2.2)
 | [],_,_,_,_=>rfl
 |a::ws,x,y,l,s=>by
  show dL c b (ws++ [s]) _ _ _=_
  rw[Bc b ws];rfl
def pW(a:Int)(x:cB)(y:ej)(l:List fF){ws:List Int}{k:Nat}(b:k<ws.length):fq c a x y l ws (k+1)=
 ((cL c (fq c a x y l ws k).1 (fq c a x y l ws k).2.1 (ws[k]).toNat a).1,(cL c (fq c a x y l ws k).1 (fq c a x y l ws k).2.1 (ws[k]).toNat a).2.1,(fq c a x y l ws k).2.2++(cL c (fq c a x y l ws k).1 (fq c a x y l ws k).2.1 (ws[k]).toNat a).2.2):=by
 unfold fq;rw[fG b,Bc]
structure Ny(c:aV)(B:Int)(x0:cB)(y0:ej)(l0:List fF)(r:cB×ej×List fF)(k:Nat):Prop where
 co:cI c (B+k) r.1
 qy:iH c (B+k) r.1 r.2.1
 id:r.2.1.id=y0.id
 ss:r.2.1.ss=y0.ss
 tx:r.2.1.text=y0.text
 len:r.2.2.length<=l0.length+k
 pl:(∀l∈l0,∀q,l.m≠.dj q)->∀l∈r.2.2,∀q,l.m≠.dj q
def Ny.zero{B:Int}{x:cB}{y:ej}(h:cI c B x)(a:iH c B x y)(l:List fF):Ny c B x y l (x,y,l) 0:=⟨h.mono (by omega),a.mono (by omega),rfl,rfl,rfl,by simp,λh=>h⟩
def Ny.next{B:Int}(p:0<=B){x0:cB}{y0:ej}{d:List fF}{r:cB×ej×List fF}{k:Nat}(h:Ny c B x0 y0 d r k){s:Nat}(g:s<(aZ c).toNat)(a:Int):Ny c B x0 y0 d ((cL c r.1 r.2.1 s a).1,(cL c r.1 r.2.1 s a).2.1,r.2.2++(cL c r.1 r.2.1 s a).2.2) (k+1):=by
 have f:=F3 h.co (by omega) h.qy g a;have⟨i,j,m,_,_⟩:=Rq (c:=c) r.1 r.2.1 s a;have⟨q,n⟩:=xA (c:=c) r.1 r.2.1 s a;have e:B+((k+1:Nat):Int)=B+k+1:=by omega
 refine⟨by rw[e];exact f.co.mono (by omega),by rw[e];exact f.qy,i.trans h.id,j.trans h.ss,m.trans h.tx,?_,λo l b=> ?_⟩
 .rw[bF]
  have:=h.len;omega
 .obtain b|b:=List.mem_append.1 b
  .exact h.pl o l b
  .exact n l b
variable{r:lr}
def PE(h:nJ r=true):0<=r.slot/\r.slot<4/\0<=r.aR/\r.aR<6/\r.items.length<=5:=by
 unfold nJ kh at h;simp only[cV,ei]at h;omega
def CS(c:aV)(x:cB)(r:lr):Bool:=mC x.who r.slot !=some r.query||(decide (aZ c<=r.aR)|| !(bR c r.aR).contains r.worker)
def Rr{x:cB}(h:CS c x r=true):
 (mC x.who r.slot).isSome=false∨((mC x.who r.slot).isSome=true/\((mC x.who r.slot).getD 0==r.query)=false)∨
 ((mC x.who r.slot).isSome=true/\((mC x.who r.slot).getD 0==r.query)=true/\aZ c<=r.aR)∨
 ((mC x.who r.slot).isSome=true/\((mC x.who r.slot).getD 0==r.query)=true/\r.aR<aZ c/\(bR c r.aR).contains r.worker=false):=by
 unfold CS at h;cases ha:mC x.who r.slot with
 |none=>exact .inl rfl
 |some id=>
  by_cases e:id=r.query
  .subst e
   rw[ha]at h;by_cases a:aZ c<=r.aR
   .exact .inr (.inr (.inl ⟨rfl,by simp,a⟩))
   .refine .inr (.inr (.inr ⟨rfl,by simp,by omega,?_⟩))
    simpa[a]using h
  .exact .inr (.inl ⟨rfl,by simpa using e⟩)
def Ve{x:cB}(h:CS c x r=false):
 mC x.who r.slot=some r.query/\r.aR<aZ c/\(bR c r.aR).contains r.worker=true:=by
 unfold CS at h;simp only[Bool.or_eq_false_iff,bne_eq_false_iff_eq,decide_eq_false_iff_not,Bool.not_eq_false']at h;exact⟨h.1,by omega,h.2.2⟩
def Nz(r:lr)(iv:ah):ah:=aG #[r.slot,r.query,r.aR,r.seq,r.worker,r.aW,iv,aw r.fin]
def Yy{m:jG}{x:cB}(h:cJ c τ w m x)(r:lr)(hr:nJ r=true){ig:Option Nat}{iv:ah}(hi:Seg w 83 2 ig iv (dT r.items) r.items.length)(d:∀y∈r.items,y.2.size<=maxLen)(hg:CS c x r=true):
 aj prog 247 #[m.cb,Nz r iv] w λe w'=>e=ax ()/\ai w w w':=by
 have⟨b1',b2',b3',b4',b5'⟩:=PE hr;have⟨ia,ic,hv,_⟩:=hi.len;have⟨u,hu⟩:=aD (w.alloc (aB #[r.slot,r.query,r.aR,r.seq,r.worker,r.aW,iv,aw r.fin] 246 (0,0)));have⟨b1,bg,X⟩:=dt hu;have Y:=h.fu bg.aJ;have hc:=Y.cells;have t:=hc.c12;have F:=hc.c15;have O:=h.copies;have⟨pa,L,G,_⟩:=h.p.s.len;rw[G,O]at t;have H:=au (show∀z,ai u u z->_ fromλz d=>atC (Y.fu d).s.at' r.slot (eN (by omega) (by omega)));have B:=au (show∀z,ai u u z->aj prog 115 #[.iface 246 (aG #[r.slot,r.query,r.aR,r.seq,r.worker,r.aW,iv,aw r.fin])] z λe w'=>e=ax (aw true)/\ai z z w' fromλz v=>by
  have:=JJ (.dj r) iv z ⟨_,_,_,hv⟩ ⟨aT.gP ((hi.bH (ch bg.aJ) (by simp)).bH (ch v) (by simp)) (λ_=>rfl) (by decide),d⟩;rw[show(cd.dj r).may=true from hr]at this;exact this)
 have hsv:=cW c;have l:=au (show∀z,ai u u z->z.cell? ⟨m.cb,12,none⟩=some (av pa (aZ c).toNat L)/\z.cell? w.heap.size=r.slot/\z.cell? ⟨w,1,none⟩=r.query/\z.cell? ⟨w,2,none⟩=r.aR/\
  z.cell? ⟨w,3,none⟩=r.seq/\z.cell? ⟨w,4,none⟩=r.worker/\z.cell? ⟨w,5,none⟩=r.aW/\z.cell? ⟨w,6,none⟩=iv/\z.cell? ⟨w,7,none⟩=some (aw r.fin)/\m.cb<z.heap.size/\w.heap.size<z.heap.size fromλz v=>by
  have I:=(ch v).at b1 (by simp);have hk:=(Y.fu v).cells;have A:=hk.c12;rw[G,O]at A;exact⟨A,aF I _ rfl,aF I _ rfl,aF I _ rfl,aF I _ rfl,aF I _ rfl,aF I _ rfl,aF I _ rfl,aF I _ rfl,hk.lt,az I⟩)
 have⟨_,Z,_⟩:=l.o u (aO _ _);have⟨HU,n,HOF⟩:=aX hu bg.aJ (Rr hg);have HCN:=au (show r.aR<aZ c->∃Q i j a C,pa=some ⟨Q,i,none⟩/\L=j/\u.cell? ⟨Q,i+r.aR.toNat,none⟩=some (av a (bR c r.aR).length C)/\Q<u.heap.size/\∀z,ai u u z->aj prog 105 #[av a (bR c r.aR).length C,r.worker] z λe w'=>e=ax (aw ((bR c r.aR).contains r.worker))/\ai z z w' fromλhs=>by
  have⟨Q,i,j,g,a,C,e1,e2,e3,W,_⟩:=Y.cop (s:=r.aR.toNat) (by omega);rw[G]at e1;rw[show((r.aR.toNat:Nat):Int)=r.aR by omega]at e2 W;simp only[bG]at e1;obtain⟨e1,_,e1'⟩:=e1;exact⟨Q,i,j,a,C,e1,e1',e2,e3,λz v=>(pJ _ _ r.worker z (aT.gP (W.bH (ch v) (by simp)) (λ_=>rfl) (by decide))).mono λe w' ⟨k1,k2⟩=>⟨k1,by rw[<-k2];exact aO _ _⟩⟩)
 unfold Nz;rw[hv]at l B⊢;rw[hv]at HU;have⟨N,hNN⟩:=aD ((aZ c).toNat);have U2:=au (show aZ c=(N:Int)by omega);rw[<-hNN]at t l;generalize hSO:(mC x.who r.slot).isSome=so at*;generalize hGD:(mC x.who r.slot).getD 0=gd at*;generalize(bR c r.aR).contains r.worker=cn at*;generalize(bR c r.aR).length=cl at*;generalize m.cb=cb at*;generalize m.sp=sp at*;generalize r.items.length=il at*;obtain⟨slot,q,k,seq,worker,aW,items,fin⟩:=r;simp only at*;clear h Y hc O G hi d hg hu bg b1 hv hr hNN hsv hSO hGD;have⟨rb,T⟩:=aD w.heap.size;have J:=au T;rw[<-T]at l Z X;clear T;obtain U|⟨U,M⟩|⟨U,M,o3⟩|⟨U,M,o3,o4⟩:=HOF.o
 .subst U
  go_in;go_upto_region 1 with fail
  rw[<-HU.o,<-J.o];go_quiet (first|(exact de (H.o _ (bo _ _).aJ)));generalize E:World.drewN u _=z;have d:ai u u z:=by rw[<-E];exact(bo u _).aJ
  have⟨A,k0,k1,k2,k3,k4,k5,k6,k7,kl,rl⟩:=l.o z d;have b:=au (show∀f,ai u u (ext z f)fromλf=>d.trans ((bX z f).mono d.size));clear E d t F Z X;go_upto_region 2 with fail
  refine cD (by kernel_rfl) (by kernel_rfl) ?_
  repeat (go_big_quiet_step (first|(go_at_call 115;exact cH (B.o _ (b.o _)))|(go_at_call 105;exact cH (K.o _ (b.o _)))|fail))
  refine eV ?_;rintro _ ⟨f,rfl⟩;have V:=au (n.o.trans ((b.o f).mono n.o.size));go_wp2;go_ret;exact⟨rfl,V.o⟩
 .subst U
  have o3:(gd !=q)=true:=by rw[bne,M];rfl
  clear M;go_in;go_upto_region 1 with fail
  rw[<-HU.o,<-J.o];go_quiet (first|(exact de (H.o _ (bo _ _).aJ)));generalize E:World.drewN u _=z;have d:ai u u z:=by rw[<-E];exact(bo u _).aJ
  have⟨A,k0,k1,k2,k3,k4,k5,k6,k7,kl,rl⟩:=l.o z d;have b:=au (show∀f,ai u u (ext z f)fromλf=>d.trans ((bX z f).mono d.size));clear E d t F Z X;go_upto_region 2 with fail
  refine cD (by kernel_rfl) (by kernel_rfl) ?_
  repeat (go_big_quiet_step (first|(go_at_call 115;exact cH (B.o _ (b.o _)))|(go_at_call 105;exact cH (K.o _ (b.o _)))|fail))
  refine eV ?_;rintro _ ⟨f,rfl⟩;have V:=au (n.o.trans ((b.o f).mono n.o.size));go_wp2;go_ret;exact⟨rfl,V.o⟩
 .subst U
  obtain rfl:gd=q:=by simpa using M
  clear M;have n3:(N:Int)<=k:=by have:=U2.o;omega
  go_in;go_upto_region 1 with fail
  rw[<-HU.o,<-J.o];go_quiet (first|(exact de (H.o _ (bo _ _).aJ)));generalize E:World.drewN u _=z;have d:ai u u z:=by rw[<-E];exact(bo u _).aJ
  have⟨A,k0,k1,k2,k3,k4,k5,k6,k7,kl,rl⟩:=l.o z d;have b:=au (show∀f,ai u u (ext z f)fromλf=>d.trans ((bX z f).mono d.size));clear E d t F Z X;go_upto_region 2 with fail
  refine cD (by kernel_rfl) (by kernel_rfl) ?_
  repeat (go_big_quiet_step (first|(go_at_call 115;exact cH (B.o _ (b.o _)))|(go_at_call 105;exact cH (K.o _ (b.o _)))|fail))
  refine eV ?_;rintro _ ⟨f,rfl⟩;have V:=au (n.o.trans ((b.o f).mono n.o.size));go_wp2;go_ret;exact⟨rfl,V.o⟩
 .subst U
  obtain rfl:gd=q:=by simpa using M
  clear M;subst o4;have n3:k<(N:Int):=by have:=U2.o;omega
  have n4:decide ((N:Int)<=k)=false:=by simpa using n3
  obtain⟨Q,i,j,a,C,rfl,rfl,e3,W,e5⟩:=HCN.o o3;clear o3;go_in;go_upto_region 1 with fail
  rw[<-HU.o,<-J.o];go_quiet (first|(exact de (H.o _ (bo _ _).aJ)));generalize E:World.drewN u _=z;have d:ai u u z:=by rw[<-E];exact(bo u _).aJ
  have⟨A,k0,k1,k2,k3,k4,k5,k6,k7,kl,rl⟩:=l.o z d;have b:=au (show∀f,ai u u (ext z f)fromλf=>d.trans ((bX z f).mono d.size));have x3:=(d.cell (p:=⟨Q,i+k.toNat,none⟩) W).trans e3;have xl:=bP W d.size;have K:=au e5;clear e3 W e5;clear E d t F Z X;go_upto_region 2 with fail
  refine cD (by kernel_rfl) (by kernel_rfl) ?_
  repeat (go_big_quiet_step (first|(go_at_call 115;exact cH (B.o _ (b.o _)))|(go_at_call 105;exact cH (K.o _ (b.o _)))|fail))
  refine eV ?_;rintro _ ⟨f,rfl⟩;have V:=au (n.o.trans ((b.o f).mono n.o.size));go_wp2;go_ret;exact⟨rfl,V.o⟩
def Vf{p:Nat}{n b:Int}{L:List qF}(h:dH w p n b L)(x e now:Int)(f:l8 n L x e=false):aj prog 254 #[p,x,e,now] w λj w'=>j=ax (aw false)/\w=w':=by
 have a:=au (Ag h x);cases hv:fy n x
 .rw[oU hv]at a
  clear h hv f;go_in;go_wp2_with (go_at_call 78;refine aH a.o ?_);go_ret;exact⟨rfl,rfl⟩
 .rw[nE hv]at a
  obtain⟨k,rfl,_,l⟩:=l7 hv h.n5;have E:(!decide ((L.getD k ()).aW=0)&&decide ((L.getD k ()).aW=e))=false:=by
   have:l8 n L k e=(!decide ((L.getD k ()).aW=0)&&decide ((L.getD k ()).aW=e)):=by unfold l8;rw[hv];rfl
   rw[<-this];exact f
  have⟨u,v,z,m,q,r,s⟩:=h.cells k l;simp only[gE]at a;have⟨y,g⟩:=aD ((L.getD k ()).aW);rw[<-g]at E q;clear h hv s m r g f;by_cases d:y=0
  .have t:(y==0)=true:=by simp[d]
   clear d E;go_in;go_wp2_with (go_at_call 78;refine aH a.o ?_);go_ret;exact⟨rfl,rfl⟩
  .have t:(y==0)=false:=by simp[d]
   have i:y≠e:=by simpa[d]using E
   have A:(y !=e)=true:=by simp[i]
   clear d i E;go_in;go_wp2_with (go_at_call 78;refine aH a.o ?_);go_ret;exact⟨rfl,rfl⟩
def Rs{x:cB}{r:lr}(b:nJ r=true)(a:CS c x r=false){y:ej}(d:x.q r.query=some y):eX c x r=
 if r.items.any (λi=>decide (y.k<i.1))|| !l8 c.workers x.L r.worker r.aW then(x,[])else
 match qt y.n y.ss y.mt r.aR r.seq r.items r.fin with
 |none=>(x.Nk (kB c.workers c.aS x.L r.worker r.aW x.now),[])
 |some f=>eG c ((x.Nk (kB c.workers c.aS x.L r.worker r.aW x.now)).Ct (dE (x.T,x.tn) (bY y.slot r.aR)).1 (dE (x.T,x.tn) (bY y.slot r.aR)).2) (y.pss f):=by
 unfold eX;have e:(!nJ r||(mC x.who r.slot !=some r.query||(decide (aZ c<=r.aR)|| !(bR c r.aR).contains r.worker)))=false:=by
  unfold CS at a;rw[b,a];rfl
 rw[e];simp only[d];rfl
def EI{x:cB}{B:Int}(a:cI c B x){s id:Int}(d:mC x.who s=some id):∃y,x.q id=some y/\y∈x.qs/\y.id=id:=by
 have⟨y,b,e⟩:=a.full s id d;exact⟨y,by unfold cB.q;rw[<-e];exact FZ a.nd b,b,e⟩
def RpS(cb rb yb kb lp p:Nat)(now aR seq worker aW:Int)(iv:ah)(fin:Bool)(y:ae):Prop:=
 y.cell? ⟨cb,14,none⟩=lp/\y.cell? ⟨cb,13,none⟩=now/\y.cell? ⟨rb,2,none⟩=aR/\y.cell? ⟨rb,3,none⟩=seq/\y.cell? ⟨rb,4,none⟩=worker/\y.cell? ⟨rb,5,none⟩=aW/\
  y.cell? ⟨rb,6,none⟩=iv/\y.cell? ⟨rb,7,none⟩=some (aw fin)/\y.cell? yb=kb/\y.cell? ⟨kb,5,none⟩=p
variable{y z:ae}
def RpS.of{i j yb k lp p:Nat}{now b f a d:Int}{iv:ah}{g:Bool}(h:RpS i j yb k lp p now b f a d iv g y)(n:z.heap[i]? =y.heap[i]?)(e:z.heap[j]? =y.heap[j]?)(o:z.heap[yb]? =y.heap[yb]?)(q:z.heap[k]? =y.heap[k]?):RpS i j yb k lp p now b f a d iv g z:=by
 obtain⟨r,s,t,u,v,A,B,C,E,l⟩:=h;exact⟨(cU n).trans r,(cU n).trans s,(cU e).trans t,(cU e).trans u,(cU e).trans v,(cU e).trans A,(cU e).trans B,(cU e).trans C,(cU o).trans E,(cU q).trans l⟩
def ZB(c:aV)(m:jG)(x:cB)(τ:cj)(w:ae)(rb yb kb:Nat)(y0 y:ae):Prop:=
 ∃br,cJ c br y m x/\Fr dB τ br w y/\y.heap[rb]? =y0.heap[rb]? /\y.heap[yb]? =y0.heap[yb]? /\y.heap[kb]? =y0.heap[kb]? /\y.heap[m.cb]? =y0.heap[m.cb]? /\y0.heap.size<=y.heap.size
def ZD(c:aV)(m:jG)(x:cB)(yk:ej)(τ:cj)(w:ae)(rb yb kb:Nat)(y0 y:ae):Prop:=
 ∃br m' k',cJ c br y m' (x.put yk)/\m'.cb=m.cb/\m'.tp=m.tp/\m'.tg=m.tg/\k'∈m'.qs/\k'.y=yk/\k'.b=kb/\Fr dB τ br w y/\y.heap[rb]? =y0.heap[rb]? /\y.heap[yb]? =y0.heap[yb]? /\y.heap[kb]? =y0.heap[kb]? /\y.heap[m.cb]? =y0.heap[m.cb]?
def ZB.seen(h:cJ c br w' m x)(g:Fr dB τ br w w'){b yb d:Nat}(i:b≠m.lp)(j:yb≠m.lp)(k:br d≠.aS)(n:b<w')(o:yb<w')(p:d<w'){L:List qF}(q:dH y m.lp c.workers c.aS L)(a:aQ [m.lp] w' y):
 ZB c m (x.Nk L) τ w b yb d w' y:=by
 have⟨r,s⟩:=h.Nk q a .keep;exact⟨_,r,g.trans s,a.block b n (by simpa using i),a.block yb o (by simpa using j),a.block d p (by simp only[cm];intro e;exact k (by rw[e];exact h.l.t)),a.block m.cb h.bd (by simp only[cm];intro e;have f:=h.t;have u:=h.l.t;rw[e]at f;exact bL (f.symm.trans u) (by simp)),a.size⟩
def ZB.drop{b yb d:Nat}{y0:ae}(h:ZB c m x τ w b yb d y0 y)(a:ai y y z)(f:b<y)(g:yb<y)(i:d<y):ZB c m x τ w b yb d y0 z:=by
 obtain⟨br,e,j,k,l,n,o,p⟩:=h;have⟨q,r⟩:=e.same a .keep;exact⟨_,q,j.trans r,(a.block _ f).trans k,(a.block _ g).trans l,(a.block _ i).trans n,(a.block _ e.bd).trans o,bD p a.size⟩
def ZD.of{d yb:Nat}{k:jd}{y0:ae}(h:ZB c m x τ w d yb k.b y0 y)(A:k∈m.qs){j:Nat}(E:j<k.y.ss.length){a:List aY}{f:Bool}(F:pN y k.p k.y.n k.gs k.gt k.sv k.tv k.ms k.y.mt j a f z)
 (H:d<y) (I:yb<y) (J:k.gs≠some d) (K:k.gs≠some yb):ZD c m x (k.y.pss (k.y.ss.set j ((k.y.ss.getD j ()).put a f))) τ w d yb k.b y0 z:=by
 obtain⟨br,s,L,M,N,O,Q,Y⟩:=h;have i:=s.q.r k A;have B:j<k.ms.length:=by rw[<-i.ss]at E;simpa using E
 have⟨C,T,G,l,U⟩:=i.ajx B F;obtain⟨v,g,Z,u,p3⟩:=F;have⟨V,W⟩:=s.aa1 A (k:=C) (by rw[l];rfl) G (by rw[l];exact U) T;have o:∀b,br b≠.mg k.y.id->b∉k.gs.toList:=λb X e=>X (i.tm b (by simp only[eh,bQ,dJ];exact .inr (.inl (.inl e))))
 refine⟨_,m.vC (pj m.qs C),C,by rw[<-l];exact V,rfl,rfl,rfl,List.mem_map.2 ⟨k,A,by rw[aI (by rw[l];rfl)]⟩,l,G,L.trans W,(u.block d H (by simpa using J)).trans M,(u.block yb I (by simpa using K)).trans N,(u.block k.b (az i.c) (o _ (by rw[i.t];simp))).trans O,(u.block m.cb s.bd (o _ (by rw[s.t];simp))).trans Q⟩
def RpC(c:aV)(m:jG)(x:cB)(yk:ej)(τ:cj)(w:ae)(rb yb kb:Nat)(y0 y:ae):Prop:=
 ∃br m' k',cJ c br y m' (x.put yk)/\m'.cb=m.cb/\k'∈m'.qs/\k'.y=yk/\k'.b=kb/\Fr dB τ br w y/\y.heap[rb]? =y0.heap[rb]? /\y.heap[yb]? =y0.heap[yb]? /\y.heap[kb]? =y0.heap[kb]? /\y.heap[m.cb]? =y0.heap[m.cb]?
def ZD.cells{d:ej}{n yb b:Nat}{y0:ae}(h:ZD c m x d τ w n yb b y0 y):y.cell? ⟨m.cb,16,none⟩=m.tp/\y.cell? ⟨b,1,none⟩=d.slot/\m.cb<y.heap.size/\b<y:=by
 obtain⟨br,u,o,f,g,p,v,s,t,i,A,_⟩:=h;have e:=f.cells;have⟨_,j,_,_,_,_,k⟩:=(f.q.r o s).cells';rw[i,t]at j;rw[i]at k;have a:=e.c16;have l:=e.lt;rw[g,p]at a;rw[g]at l;exact⟨a,j,l,k⟩
def ZD.cancel{K:ej}{j yb s:Nat}{y0:ae}(h:ZD c m x K τ w j yb s y0 y)(g:ai y y z)(L:j<y)(M:yb<y)(Q:j∉m.tp::m.tg.toList)(U:yb∉m.tp::m.tg.toList)(id:Int):
 aj prog 124 #[m.tp,(id:Int)] z λe w'=>e=ax (aw (x.T id).isSome)/\RpC c m (x.Ct (dE (x.T,x.tn) id).1 (dE (x.T,x.tn) id).2) K τ w j yb s y0 w':=by
 obtain⟨br,V,u,v,A,B,l,C,W,N,X,Y,E,F,G⟩:=h;have⟨k,Z⟩:=v.same g .keep;have O:=k.q.r u C;have n:=Az k.i.a id;rw[B]at n;refine n.mono ?_;rintro e w' ⟨rfl,H⟩;have I:aQ (m.tp::m.tg.toList) z w':=by
  have:=H.2;rw[l]at this;exact this
 rw[<-B]at H;have⟨g',k1,k2⟩:=k.time H;have o:∀b,b<z.heap.size->(eP br y .keep) b≠.timer->w'.heap[b]? =z.heap[b]? :=λb hb J=>I.block b hb λe=>J (k.i.t b (by rw[B,l];exact e))
 have f:=k.t;rw[A]at f;refine⟨rfl,_,V.Ct g',u,k1,A,C,W,N,(X.trans Z).trans k2,?_,?_,?_,?_⟩
 .exact((I.block j (bP L g.size) Q).trans (g.block j L)).trans Y
 .exact((I.block yb (bP M g.size) U).trans (g.block yb M)).trans E
 .have p:=az (v.q.r u C).c
  have d:=az O.c;have n:=O.t;rw[N]at p d n;exact((o s d (by rw[n];simp)).trans (g.block s p)).trans F
 .have p:=v.bd
  have d:=k.bd;rw[A]at p d;exact((o m.cb d (by rw[f];simp)).trans (g.block m.cb p)).trans G
def RpC.goes{a:ej}{j yb f:Nat}{y0:ae}(h:RpC c m x a τ w j yb f y0 y)(k:0<=a.slot/\a.slot<=3)(l:1<=a.id/\a.id<=x.told.length)(n:(x.told.length:Int)<=1000000000)(o:(aZ c).toNat<=6)(p:1<=c.workers/\c.workers<=5)(q:∀t∈x.told,t.items.length<=100000):
 aj prog 94 #[m.cb,f] y (pS c m.cb (eG c x a) τ w):=by
 obtain⟨br,H,I,r,s,u,b,A,g,_⟩:=h;have i:=Pm r u (by rw[b];exact k) (by rw[b];exact l) n o p q;rw[s,A,b,UT c x rfl]at i;refine i.mono ?_;rintro e w' ⟨v,rfl,B,d,C,E,F,G⟩;exact⟨v,rfl,B.mono g.size,d,C,E,F,g.trans G⟩
def Vg{m:jG}{x:cB}{B:Int}(h:cJ c τ w m x)(G:cI c B x)(hB:B<=1000000000)(r:lr)(hr:nJ r=true){ig:Option Nat}{iv:ah}(hi:Seg w 83 2 ig iv (dT r.items) r.items.length)(ht:∀b,ig=some b->τ b=.keep)(hz:∀y∈r.items,y.2.size<=maxLen)(hn:∀t∈x.told,t.items.length<=100000)(hg:CS c x r=false):
 aj prog 247 #[m.cb,Nz r iv] w (pS c m.cb (eX c x r) τ w):=by
 have⟨ha,hsr,hct⟩:=Ve hg;have⟨yy0,hq0,abt,abu⟩:=EI G ha;obtain⟨k,M,hki,hq,hf⟩:∃k∈m.qs,k.y.id=r.query/\x.q r.query=some k.y/\ur m.qs r.query=some k.b:=by
  obtain⟨h1,_⟩|h1:=h.find r.query
  .rw[hq0]at h1;cases h1
  .exact h1
 have hyk:k.y∈x.qs:=by rw[<-h.qv];exact List.mem_map.2 ⟨k,M,rfl⟩
 have⟨n1,n2,n3,n4⟩:=G.nums hyk;have hbd:=aV.bounds G.may;have hll:(x.told.length:Int)<=1000000000:=by have:=G.tl;have:=G.lb;omega
 have hrv:=Rs hr hg hq;have⟨b1',b2',b3',b4',b5'⟩:=PE hr;obtain⟨ia,ic,hv,-⟩:=hi.len;have⟨u,hu⟩:=aD (w.alloc (aB #[r.slot,r.query,r.aR,r.seq,r.worker,r.aW,iv,aw r.fin] 246 (0,0)));have⟨b1,bg,bl⟩:=dt hu;have h1:=h.fu bg.aJ;have hc:=h1.cells;have c15:=hc.c15;have hcl:=h.copies;obtain⟨pa,UO,hpv,-⟩:=h.p.s.len;have HAT:=au (show∀z,ai u u z->_ fromλz hz=>atC (h1.fu hz).s.at' r.slot (eN (by omega) (by omega)));have Rt:=au (show∀z,ai u u z->aj prog 115 #[.iface 246 (aG #[r.slot,r.query,r.aR,r.seq,r.worker,r.aW,iv,aw r.fin])] z λe w'=>e=ax (aw true)/\ai z z w' fromλz E=>by
  have:=JJ (.dj r) iv z ⟨_,_,_,hv⟩ ⟨aT.gP ((hi.bH (ch bg.aJ) (by simp)).bH (ch E) (by simp)) (λ_=>rfl) (by decide),hz⟩;rw[show(cd.dj r).may=true from hr]at this;exact this)
 have hsv:=cW c;have U:=au (show∀z,ai u u z->z.cell? ⟨m.cb,12,none⟩=some (av pa (aZ c).toNat UO)/\z.cell? w.heap.size=r.slot/\z.cell? ⟨w,1,none⟩=r.query/\z.cell? ⟨w,2,none⟩=r.aR/\
  z.cell? ⟨w,3,none⟩=r.seq/\z.cell? ⟨w,4,none⟩=r.worker/\z.cell? ⟨w,5,none⟩=r.aW/\z.cell? ⟨w,6,none⟩=iv/\z.cell? ⟨w,7,none⟩=some (aw r.fin)/\m.cb<z.heap.size/\w.heap.size<z.heap.size fromλz E=>by
  have V:=(ch E).at b1 (by simp);have M:=(h1.fu E).cells;have e12:=M.c12;rw[hpv,hcl]at e12;exact⟨e12,aF V _ rfl,aF V _ rfl,aF V _ rfl,aF V _ rfl,aF V _ rfl,aF V _ rfl,aF V _ rfl,aF V _ rfl,M.lt,az V⟩)
 obtain⟨-,d0,-⟩:=U.o u (aO _ _);have⟨HU,Cw⟩:=aK hu bg.aJ;obtain⟨pb,UW,afA,ag,aa,abp,e1,e2,e3,e4,-⟩:=h1.cop (s:=r.aR.toNat) (by omega);rw[hpv]at e1;rw[show((r.aR.toNat:Nat):Int)=r.aR by omega]at e2 e4;simp only[bG]at e1;obtain⟨rfl,_,rfl⟩:=e1;have MD:=au (show∀z,ai u u z->aj prog 105 #[av aa (bR c r.aR).length abp,r.worker] z λe w'=>e=ax (aw true)/\ai z z w' fromλz E=>
  (pJ _ _ r.worker z (aT.gP (e4.bH (ch E) (by simp)) (λ_=>rfl) (by decide))).mono λe w' ⟨k1,k2⟩=>⟨by rw[k1,hct],by rw[<-k2];exact aO _ _⟩)
 have HLK:=au (show∀z,ai u u z->z.cell? ⟨m.cb,17,none⟩=some (.map (some m.qb))/\(Instr.lookup 109 (.map (some m.qb)) r.query false).run prog z=.ok k.b z fromλz E=>by
  have M:=h1.fu E;have hl:=M.q.m.look (t:=109) underlying109 F7 (x:=r.query) (eN (by omega) (by omega));rw[hf]at hl;exact⟨M.cells.c17,hl⟩)
 have⟨HIS,H⟩:=aK hi h;have⟨Q,hQ⟩:=aD (pS c m.cb (eX c x r) τ w);rw[<-hQ];have HQ:=au hQ;unfold Nz;rw[hv]at U Rt⊢;rw[hv]at HU;have⟨N,hNN⟩:=aD ((aZ c).toNat);have n3':r.aR<(N:Int):=by omega
 have n4':decide ((N:Int)<=r.aR)=false:=by simpa using n3'
 rw[<-hNN]at U;rw[ha]at HAT;simp only[Option.getD_some,Option.isSome_some]at HAT;have⟨g,hrb⟩:=aD w.heap.size;have F4:=au hrb;rw[<-hrb]at U d0 bl;clear hNN hrb hQ h h1 hc hcl hpv hi hg hu bg b1 hr hsv;go_in;go_upto_region 1 with fail
 rw[<-HU.o,<-F4.o];go_quiet (first|(exact de (HAT.o _ (bo _ _).aJ)));generalize hZ:World.drewN u _=z;have hzb:ai u u z:=by rw[<-hZ];exact(bo u _).aJ
 have⟨e12,k0,k1,k2,k3,k4,k5,k6,k7,kl,rl⟩:=U.o z hzb;have HEX:=au (show∀W,ai u u (ext z W)fromλW=>hzb.trans ((bX z W).mono hzb.size));have x3:=(hzb.cell (p:=⟨pb,UW+r.aR.toNat,none⟩) e3).trans e2;have xl:=bP e3 hzb.size;clear hZ hzb c15 d0 bl e2 e3 e4;go_upto_region 2 with fail
 refine cD (by kernel_rfl) (by kernel_rfl) ?_
 repeat (go_big_quiet_step (first|(go_at_call 115;exact cH (Rt.o _ (HEX.o _)))|(go_at_call 105;exact cH (MD.o _ (HEX.o _)))|fail))
 refine eV ?_;rintro _ ⟨W,rfl⟩;have⟨w2,hw2⟩:=aD (ext z W);have hb2:ai u u w2:=by rw[hw2];exact HEX.o W
 rw[<-hw2];have⟨l17,lk⟩:=HLK.o w2 hb2;obtain⟨-,-,-,-,-,-,-,i6,-,kl2,Wx⟩:=U.o w2 hb2;have⟨u2,hu2⟩:=aD (w2.alloc (aB #[k.b] 179 (0,0)));have⟨yb1,ybg,ybl⟩:=dt hu2;have Z:=hb2.trans (ybg.aJ.mono hb2.size);obtain⟨-,-,-,-,-,-,-,j6,-,kl3,rl3⟩:=U.o u2 Z;have⟨yb,hyb⟩:=aD w2.heap.size;have HYB:=au hyb;rw[<-hyb]at yb1 ybl;have HU2:=au hu2;have abv:=Cw.o.trans (Z.mono Cw.o.size);have afF:=au (ajw (w:=u2) (yb:=yb) (λi=>decide (k.y.k<i.1)) (HIS.o.bH (ch abv) (by simp)) (by omega) (λy d s hy=>aa4 ((H.o.fu abv).fu hy) M ((ch hy).at yb1 (by simp)) d s));rw[hv]at afF;have⟨HB2,aj8,HYW,Wv⟩:=c_ Z yb1 (show w.heap.size<=yb by have:=hb2.size;have:=F4.o;have:=Cw.o.size;omega) hbd;clear hw2 hb2 hu2 ybg Z hyb abv e12 k0 k1 k2 k3 k4 k5 k6 k7 kl rl x3 xl;go_upto_region 5 with fail
 rw[<-HU2.o,<-HYB.o];go_wp2_with fail
 refine afF.m ?_;rintro e C ⟨rfl,hy3⟩;have hu3:=HB2.o.trans (hy3.mono HB2.o.size);have hw3:=Cw.o.trans (hu3.mono Cw.o.size);obtain⟨-,-,-,g2,g3,g4,g5,g6,g7,gl,gr⟩:=U.o C hu3;have h3:=H.o.fu hw3;have hc3:=h3.cells;have g13:=hc3.c13;have g14:=hc3.c14;obtain⟨-,-,-,-,-,q5,q6⟩:=(h3.q.r k M).cells';have gy:=(ch hy3).at aj8.o (by simp);have gy0:=aF gy 0 rfl;have gyl:=az gy;have Y:=au hw3;have HQN:=au (show∀y X,ai w w y->eX c x r=(X,[])->I2 c m.cb X τ w y->Q (ax ()) y fromλy X hy e hp=>by
  rw[HQ.o,e];exact⟨_,rfl,eH.nil _ _,hp⟩)
 have⟨far,Xf⟩:=aD (r.items.any λi=>decide (k.y.k<i.1));have⟨Yz,HFA⟩:=aK (show eX c x r=_ from hrv) Xf;rw[<-Xf];clear hrv Xf hu3 hy3 hc3 h3 hw3 gy hq0 abt abu hq hf hbd lk l17 i6 j6 kl2 Wx kl3 rl3 yb1 ybl ha hsr hct n3' n4';cases far
 .cases hsb:l8 c.workers x.L r.worker r.aW
  .have HSN:=au (show∀z,ai C C z->aj prog 254 #[m.lp,r.worker,r.aW,x.now] z λe w'=>e=ax (aw false)/\ai z z w' fromλz E=>
    (Vf ((H.o.fu Y.o).fu E).l.a r.worker r.aW x.now hsb).mono λe w' ⟨k1,k2⟩=>⟨k1,by rw[<-k2];exact aO _ _⟩)
   have HE:=au (show∀W,Q (ax ()) (ext C W)fromλW=>by
    have V:=Y.o.trans ((bX C W).mono Y.o.size);refine HQN.o _ x V ?_ (I2.of H.o V);rw[Yz.o,hsb];simp)
   have HSN:=au (show∀z,ai C C z->aj prog 254 #[m.lp,r.worker,r.aW,x.now] z λe w'=>e=ax (aw false)/\ai z z w' fromλz E=>
    (Vf ((H.o.fu Y.o).fu E).l.a r.worker r.aW x.now hsb).mono λe w' ⟨k1,k2⟩=>⟨k1,by rw[<-k2];exact aO _ _⟩)
   clear hsb G hn M hki hyk ht hz hll;go_upto_region 6 with fail
   refine cD (by kernel_rfl) (by kernel_rfl) ?_
   repeat (go_big_quiet_step (first|(go_at_call 254;exact cH (HSN.o _ (bX _ _)))|fail))
   refine eV ?_;rintro _ ⟨W,rfl⟩;have HF:=au (HE.o W);go_wp2;exact HF.o
  .
   have hd3:=Y.o.drew;have⟨j1,j2⟩:=H.o.same hd3 .keep;have hqk:=(j1.q.r k M).t;have afG:=az H.o.l.a.c;have hrw:=F4.o;have hyw:=HYW.o;have⟨S1,K⟩:=aD (ZB c m (x.Nk (kB c.workers c.aS x.L r.worker r.aW x.now)) τ w g yb k.b C.drew);have HSE:=au (show aj prog 254 #[m.lp,r.worker,r.aW,x.now] C.drew λe w'=>e=ax (aw true)/\S1 w' by
    refine(adi j1.l.a r.worker r.aW x.now G.n0 G.n1).mono ?_;rintro e w' ⟨rfl,k1,k2⟩;rw[hsb,K];exact⟨rfl,ZB.seen j1 j2 (by omega) (by omega) (by rw[hqk];simp) (by simpa using gr) (by simpa using gyl) (by simpa using q6) k1 k2⟩)
   have K0:=au (show(C.drew.cell? ⟨m.cb,14,none⟩=m.lp/\C.drew.cell? ⟨m.cb,13,none⟩=x.now/\C.drew.cell? ⟨g,2,none⟩=r.aR/\C.drew.cell? ⟨g,3,none⟩=r.seq/\C.drew.cell? ⟨g,4,none⟩=r.worker/\C.drew.cell? ⟨g,5,none⟩=r.aW/\C.drew.cell? ⟨g,6,none⟩=some (av ia r.items.length ic)/\C.drew.cell? ⟨g,7,none⟩=some (aw r.fin)/\C.drew.cell? yb=k.b/\C.drew.cell? ⟨k.b,5,none⟩=k.p)from⟨g14,g13,g2,g3,g4,g5,g6,g7,gy0,q5⟩);have HK1:=au (show∀A,S1 A->(A.cell? ⟨m.cb,14,none⟩=m.lp/\A.cell? ⟨m.cb,13,none⟩=x.now/\A.cell? ⟨g,2,none⟩=r.aR/\A.cell? ⟨g,3,none⟩=r.seq/\A.cell? ⟨g,4,none⟩=r.worker/\A.cell? ⟨g,5,none⟩=r.aW/\A.cell? ⟨g,6,none⟩=some (av ia r.items.length ic)/\A.cell? ⟨g,7,none⟩=some (aw r.fin)/\A.cell? yb=k.b/\A.cell? ⟨k.b,5,none⟩=k.p)fromλA J=>by
    rw[K]at J;obtain⟨τ4,i1,i2,F,i4,i5,i7,i8⟩:=J;have⟨a1,a2,a3,a4,a5,a6,a7,a8,a9,a10⟩:=K0.o;exact⟨(cU i7).trans a1,(cU i7).trans a2,(cU F).trans a3,(cU F).trans a4,(cU F).trans a5,(cU F).trans a6,(cU F).trans a7,(cU F).trans a8,(cU i4).trans a9,(cU i5).trans a10⟩)
   have HLT:=au (show∀A,S1 A->g<A/\yb<A/\k.b<A.heap.size fromλA J=>by
    rw[K]at J;obtain⟨τ4,i1,i2,F,i4,i5,i7,i8⟩:=J;have i8:C.heap.size<=A.heap.size:=i8;omega)
   have HPU:=au (show∀A,S1 A->aj prog 255 #[k.p,r.aR,r.seq,av ia r.items.length ic,aw r.fin] A (afc k.y.n k.y.ss k.y.mt r.aR r.seq r.items r.fin A λj w'=>pN A k.p k.y.n k.gs k.gt k.sv k.tv k.ms k.y.mt j r.items r.fin w')fromλA J=>by
    rw[K]at J;obtain⟨τ4,i1,i2,F,i4,i5,i7,i8⟩:=J;have hq4:=i1.q.r k M;have:=afd hq4.mg r.aR r.seq ((HIS.o.fr i2 ht lO).1) (by omega) r.fin;rw[hq4.ss,hv]at this;exact this)
   have abw:k.gs≠some g:=λe=>by
    have:=(H.o.q.r k M).mg.lt g (by simp[eh,e]);omega
   have abx:k.gs≠some yb:=λe=>by
    have:=(H.o.q.r k M).mg.lt yb (by simp[eh,e]);omega
   cases hmp:qt k.y.n k.y.ss k.y.mt r.aR r.seq r.items r.fin with
   |none=>
    have HPN:=au (show∀A,S1 A->aj prog 255 #[k.p,r.aR,r.seq,av ia r.items.length ic,aw r.fin] A (λe w'=>e=ax (aw false)/\S1 w')fromλA J=>by
     refine(HPU.o A J).mono ?_;rintro e w' (⟨_,rfl,V⟩|⟨j,_,O,_⟩)
     .have⟨l1,l2,l3⟩:=HLT.o A J
      rw[K]at J⊢;exact⟨rfl,J.drop V l1 l2 l3⟩
     .rw[hmp]at O;cases O)
    have HE:=au (show∀f,S1 f->Q (ax ()) f fromλf O=>by
     rw[K]at O;obtain⟨τ5,i1,i2,_⟩:=O;rw[HQ.o,Yz.o,hsb,hmp,<-HFA.o];exact⟨_,rfl,eH.nil _ _,τ5,m,i1,rfl,i2⟩)
    clear hsb hmp K G hn M hki hyk ht hz hll j1 j2 hqk afG hrw hyw abw abx hd3;go_upto_region 6 with fail
    go_region_held3 (λw'=>(w'.cell? ⟨m.cb,14,none⟩=m.lp/\w'.cell? ⟨m.cb,13,none⟩=x.now/\w'.cell? ⟨g,2,none⟩=r.aR/\w'.cell? ⟨g,3,none⟩=r.seq/\w'.cell? ⟨g,4,none⟩=r.worker/\w'.cell? ⟨g,5,none⟩=r.aW/\w'.cell? ⟨g,6,none⟩=some (av ia r.items.length ic)/\w'.cell? ⟨g,7,none⟩=some (aw r.fin)/\w'.cell? yb=k.b/\w'.cell? ⟨k.b,5,none⟩=k.p)) (first|(with_reducible exact K0.o)|(with_reducible exact K1.o)|(with_reducible exact K2.o)) (first
     |(go_at_call 254;refine HSE.m ?_;rintro e A ⟨rfl,s4⟩;have K1:=au (HK1.o A s4);have S4:=au s4;clear s4)
     |(go_at_call 255;refine(HPN.o _ S4.o).mono ?_;rintro e f ⟨rfl,s5⟩;have K2:=au (HK1.o f s5);have S5:=au s5;clear s5))
    have HF:=au (HE.o f S5.o);go_wp2;exact HF.o
   |some ss=>
    have⟨S2,hS2⟩:=aD (ZD c m (x.Nk (kB c.workers c.aS x.L r.worker r.aW x.now)) (k.y.pss ss) τ w g yb k.b C.drew);have HPY:=au (show∀A,S1 A->aj prog 255 #[k.p,r.aR,r.seq,av ia r.items.length ic,aw r.fin] A (λe w'=>e=ax (aw true)/\S2 w')fromλA J=>by
     refine(HPU.o A J).mono ?_;rintro e w' (⟨O,_⟩|⟨j,hj,O,rfl,hp⟩)
     .rw[hmp]at O;cases O
     .have⟨l1,l2,l3⟩:=HLT.o A J
      rw[K]at J;rw[hmp]at O;simp only[bA]at O;refine⟨rfl,?_⟩;rw[hS2,O];exact ZD.of J M hj hp l1 l2 abw abx)
    have HK2:=au (show∀f,S2 f->(f.cell? ⟨m.cb,14,none⟩=m.lp/\f.cell? ⟨m.cb,13,none⟩=x.now/\f.cell? ⟨g,2,none⟩=r.aR/\f.cell? ⟨g,3,none⟩=r.seq/\f.cell? ⟨g,4,none⟩=r.worker/\f.cell? ⟨g,5,none⟩=r.aW/\f.cell? ⟨g,6,none⟩=some (av ia r.items.length ic)/\f.cell? ⟨g,7,none⟩=some (aw r.fin)/\f.cell? yb=k.b/\f.cell? ⟨k.b,5,none⟩=k.p)fromλA J=>by
     rw[hS2]at J;obtain⟨_,_,_,_,_,_,_,_,_,_,_,F,i4,i5,i7⟩:=J;have⟨a1,a2,a3,a4,a5,a6,a7,a8,a9,a10⟩:=K0.o;exact⟨(cU i7).trans a1,(cU i7).trans a2,(cU F).trans a3,(cU F).trans a4,(cU F).trans a5,(cU F).trans a6,(cU F).trans a7,(cU F).trans a8,(cU i4).trans a9,(cU i5).trans a10⟩)
    have qS:=au (show∀f,S2 f->f.cell? ⟨m.cb,16,none⟩=m.tp/\f.cell? ⟨k.b,1,none⟩=k.y.slot/\m.cb<f.heap.size/\k.b<f.heap.size fromλf O=>by
     rw[hS2]at O;exact O.cells)
    have⟨tm,htm⟩:=aD (bY k.y.slot r.aR);have X6:=au (show∀z,aj prog 125 #[k.y.slot,r.aR] z λe w'=>e=ax tm/\z=w' fromλz=>htm▸nR k.y.slot r.aR z (by omega) (by omega) (by omega) (by omega));have⟨S3,hS3⟩:=aD (RpC c m ((x.Nk (kB c.workers c.aS x.L r.worker r.aW x.now)).Ct (dE (x.T,x.tn) tm).1 (dE (x.T,x.tn) tm).2) (k.y.pss ss) τ w g yb k.b C.drew);have⟨b0,hb0⟩:=aD ((x.T tm).isSome);have htl:=H.o.i.a.lt;have HCA:=au (show∀f,S2 f->g<f->yb<f->aj prog 124 #[m.tp,an ar tm] f.drew λe w'=>e=ax (aw b0)/\S3 w' fromλf O l1 l2=>by
     rw[hS2]at O;rw[hS3,hb0];exact O.cancel ((aO _ _).drew) l1 l2 (λe=>by have:=htl g e;omega) (λe=>by have:=htl yb e;omega) tm)
    have HK3:=au (show∀I,S3 I->I.heap[g]? =C.heap[g]? /\I.heap[yb]? =C.heap[yb]? /\I.heap[k.b]? =C.heap[k.b]? /\I.heap[m.cb]? =C.heap[m.cb]? fromλI h6=>by
     rw[hS3]at h6;obtain⟨_,_,_,_,_,_,_,_,_,F,i4,i5,i7⟩:=h6;exact⟨F,i4,i5,i7⟩)
    have HK5:=au (show∀f,S2 f->f.heap[g]? =C.heap[g]? /\f.heap[yb]? =C.heap[yb]? /\f.heap[k.b]? =C.heap[k.b]? /\f.heap[m.cb]? =C.heap[m.cb]? fromλI h6=>by
     rw[hS2]at h6;obtain⟨_,_,_,_,_,_,_,_,_,_,_,F,i4,i5,i7⟩:=h6;exact⟨F,i4,i5,i7⟩)
    have HGO:=au (show∀I,S3 I->aj prog 94 #[m.cb,k.b] I Q fromλI h6=>by
     rw[hS3]at h6;rw[HQ.o,Yz.o,hsb,hmp,<-HFA.o];have:=h6.goes (show 0<=k.y.slot/\k.y.slot<=3 from⟨n1,n2⟩) (show 1<=k.y.id/\k.y.id<=x.told.length from⟨n3,n4⟩) hll (by have:=cW c;omega) ⟨Wv.o.w1,Wv.o.w2⟩ hn;rw[htm]at this;exact this)
    have⟨QI,GY0,G2⟩:=aX (show∀e y,Q e y->∃v,e=ax v fromλe y hh=>by rw[HQ.o]at hh;obtain⟨v,q1,_⟩:=hh;exact⟨v,q1⟩) gy0 g2;clear hsb hmp K hS2 hS3 hb0 htm htl G hn M hki hyk ht hz hll j1 j2 hqk afG hrw hyw abw abx hd3;go_upto_region 6 with fail
    go_region_held3 (λw'=>(w'.cell? ⟨m.cb,14,none⟩=m.lp/\w'.cell? ⟨m.cb,13,none⟩=x.now/\w'.cell? ⟨g,2,none⟩=r.aR/\w'.cell? ⟨g,3,none⟩=r.seq/\w'.cell? ⟨g,4,none⟩=r.worker/\w'.cell? ⟨g,5,none⟩=r.aW/\w'.cell? ⟨g,6,none⟩=some (av ia r.items.length ic)/\w'.cell? ⟨g,7,none⟩=some (aw r.fin)/\w'.cell? yb=k.b/\w'.cell? ⟨k.b,5,none⟩=k.p)) (first|(with_reducible exact K0.o)|(with_reducible exact K1.o)|(with_reducible exact K2.o)) (first
     |(go_at_call 254;refine HSE.m ?_;rintro e A ⟨rfl,s4⟩;have K1:=au (HK1.o A s4);have S4:=au s4;clear s4)
     |(go_at_call 255;refine(HPY.o _ S4.o).mono ?_;rintro e f ⟨rfl,s5⟩;have K2:=au (HK2.o f s5);have S5:=au s5;clear s5))
    have⟨t16,t1,tl,tkl⟩:=qS.o f S5.o;have⟨F,i4,i5,i7⟩:=HK5.o f S5.o;have trl:g<f:=iV f _ ((cU F).trans G2.o);have tyl:yb<f:=iV f _ ((cU i4).trans GY0.o);have t2:=(cU F).trans G2.o;have ty:=(cU i4).trans GY0.o;have⟨HCN,K4⟩:=aK (HCA.o f S5.o trl tyl) (show(f.drew.cell? ⟨m.cb,16,none⟩=m.tp/\f.drew.cell? yb=k.b/\f.drew.cell? ⟨k.b,1,none⟩=k.y.slot/\f.drew.cell? ⟨g,2,none⟩=r.aR)from⟨t16,ty,t1,t2⟩);have HK4:=au (show∀I,S3 I->(I.cell? ⟨m.cb,16,none⟩=m.tp/\I.cell? yb=k.b/\I.cell? ⟨k.b,1,none⟩=k.y.slot/\I.cell? ⟨g,2,none⟩=r.aR)fromλI h6=>by
     have⟨o3,o4,o5,o7⟩:=HK3.o I h6;exact⟨(cU (o7.trans i7.symm)).trans t16,(cU (o4.trans i4.symm)).trans ty,(cU (o5.trans i5.symm)).trans t1,(cU (o3.trans F.symm)).trans t2⟩)
    clear F i4 i5 i7 g2 g3 g4 g5 g6 g7 g13 g14 gy0 q5 q6 gl gr gyl;go_upto_region 8 with fail
    go_region_held3 (λw'=>(w'.cell? ⟨m.cb,16,none⟩=m.tp/\w'.cell? yb=k.b/\w'.cell? ⟨k.b,1,none⟩=k.y.slot/\w'.cell? ⟨g,2,none⟩=r.aR)) (first|(with_reducible exact K4.o)|(with_reducible exact K5.o)) (first
     |(go_at_call 125;(with_reducible refine aH (X6.o _) ?_))
     |(go_at_call 124;refine HCN.m ?_;rintro e I ⟨rfl,s6⟩;have K5:=au (HK4.o I s6);have S6:=au s6;clear s6))
    have⟨v16,vy,v1,v2⟩:=K5.o;have HG:=au (HGO.o I S6.o);clear t16 ty t1 t2 v16 v1 v2;go_wp2_with fail
    refine HG.m ?_;intro e y hr;obtain⟨v,rfl⟩:=QI.o e y hr;have HF:=au hr;clear hr;go_wp2;exact HF.o
 .have HE:=au (show∀W,ai C C W->Q (ax ()) W fromλW hy=>by
   have V:=Y.o.trans (hy.mono Y.o.size);refine HQN.o _ x V ?_ (I2.of H.o V);rw[Yz.o,<-HFA.o];simp)
  have HF:=au (HE.o C.drew ((aO _ _).drew));clear G hn M hki hyk ht hz hll;go_upto_region 6 with fail
  go_region
  go_wp2;exact HF.o
section
open Go.ChangeMaps mX
variable{P:Tg->Prop}{τ br:cj}{w w':ae}{c:aV}
open Classical in
noncomputable def rA (τ:cj) (n kb:Nat) (id:Int) (own:List Nat):cj:=λq=>if q<n then τ q else if q=kb then .FP id else if q∈own then .mg id else .keep
def ph.fresh{y b:ae}{p:Nat}{n:Int}{e:Option Nat}{h:ah}{xs:List Int}(i:ir b p n e none h () (xs.map iC) [])(m:∀z∈eh p e none (xs.map iC),y.heap.size<=z)(j:ai y y b)(id slot:Int)(text:ByteArray)(k:Int)(o:text.size<=1000)(τ:cj)(g:ae)
 (l:g=b.alloc (aB (jd.cells ⟨⟨id,slot,text,k,n,xs.map AX,[],List.replicate 6 ⟨0,0,0,false⟩⟩,b.heap.size,p,e,none,h,(),xs.map iC⟩).toArray 184 (0,0))):
 ph (rA τ y b.heap.size id (eh p e none (xs.map iC))) g ⟨⟨id,slot,text,k,n,xs.map AX,[],List.replicate 6 ⟨0,0,0,false⟩⟩,b.heap.size,p,e,none,h,(),xs.map iC⟩/\
  Fr (λ_=>False) τ (rA τ y b.heap.size id (eh p e none (xs.map iC))) y g:=by
 have f:ai b b g:=by rw[l];exact(aO _ _).alloc (aP _) _
 have a:=j.trans (f.mono j.size);refine⟨⟨by rw[l];exact a_ _ _,i.kept λq d=>f.block q (i.lt q d),?_,rfl,o,?_,λq d=> ?_⟩,⟨a.os,a.tape,a.output,a.size,λq d=>by unfold rA;rw[aI d],λq d _=>a.block q d⟩⟩
 .show(xs.map iC).map dQ.s=xs.map AX
  rw[fT];rfl
 .show rA _ _ _ _ _ b=_
  unfold rA;rw[aC (by have:=j.size;omega),aI rfl]
 .have r:=m q d
  have t:=i.lt q d
  show rA _ _ _ _ _ q=_
  unfold rA;rw[aC (by omega),aC (by omega),aI d]
def aby{x:cB}{B:Int}(h:cI c B x){m:jG}(a:cJ c τ w m x):∀z∈m.qs,z.y.id≠x.last+1:=λz b e=>by
 have d:z.y∈x.qs:=by rw[<-a.qv];exact List.mem_map.2 ⟨z,b,rfl⟩
 have⟨_,_,_,f⟩:=(h.qy z.y d).slot h.sl;omega
def YA{m:Bool}{b:List Int}{a:Int}(h:(jD m b a).1≠3):CC m b a=b/\CD m b a=a:=by
 unfold jD at h;unfold CC CD;split
 .exact⟨rfl,rfl⟩
 .rename_i d
  rw[aC d]at h;split
  .exact⟨rfl,rfl⟩
  .rename_i e
   rw[aC e]at h;exact bL rfl h
def YB{m:jG}{x:cB}{y a:ae}(h:cJ c τ y m x){p:Nat}{n:Int}{l:Option Nat}{I:ah}{xs:List Int}(J:ir a p n l none I () (xs.map iC) [])(K:∀z∈eh p l none (xs.map iC),y.heap.size<=z)(L:ai y y a)(id slot:Int)(text:ByteArray)(k:Int)(M:text.size<=1000)
 (hid:ld id) (C:∀z∈m.qs,z.y.id≠id) (N:m.qs.length<1000000) (g:ae)
 (O:g=a.alloc (aB #[id,slot,aA text,(k:Int),n,p,an ar 0,an ar 0,an ar 0,aw false,an ar 0,an ar 0,an ar 0,aw false,an ar 0,an ar 0,an ar 0,aw false,an ar 0,an ar 0,an ar 0,aw false,an ar 0,an ar 0,an ar 0,aw false,an ar 0,an ar 0,an ar 0,aw false] 184 (0,0))):
 ∃d,(Instr.mapUpdate 109 (.map (some m.qb)) id a).run prog g=.ok () d/\aQ [m.qb] g d/\∃i j o,cJ c i d j (x.vC (x.qs++ [⟨id,slot,text,k,n,xs.map AX,[],List.replicate 6 ⟨0,0,0,false⟩⟩]))/\o∈j.qs/\
  o.y=⟨id,slot,text,k,n,xs.map AX,[],List.replicate 6 ⟨0,0,0,false⟩⟩/\o.b=a.heap.size/\j.cb=m.cb/\j.dv=m.dv/\j.ts.length=m.ts.length/\Fr dB τ i y d:=by
 have⟨E,r⟩:=ph.fresh J K L id slot text k M τ g O;have⟨f,s⟩:=aD (rA τ y a.heap.size id (eh p l none (xs.map iC)));rw[<-s]at E r;have u:=h.fr (P:=λ_=>False) r (λ_ _ e=>e) (λe=>e);have v:ur m.qs id=none:=by
  unfold ur;rw[List.find?_eq_none.2 (λz A=>by simpa using C z A)];rfl
 have⟨d,Q,F,G⟩:=u.q.m.store (t:=109) underlying109 N hid a;rw[v]at F;have H:Fr (·=.FO) f f g d:=Fr.fm G (by simpa using u.q.t);have B:=E.fr H (by simp) (by simp);have⟨T,U⟩:=u.aju H B (λz A=>C z A) F;refine⟨d,Q,G,f,_,_,T,List.mem_append_right _ (List.mem_singleton.2 rfl),rfl,rfl,rfl,rfl,rfl,(r.mono λ_ e=>e.elim).trans U⟩
def abz{x:cB}{B:Int}(h:cI c B x):x.qs.length<=4:=by
 have p:=h.four;have d:∀y∈x.qs,y.slot.toNat<x.who.length/\0<=y.slot:=λy f=>by
  have⟨a,b,_⟩:=(h.qy y f).slot h.sl;exact⟨b,a⟩
 have g:(x.qs.map λy=>y.slot.toNat).Nodup:=by
  have j:=h.nd;rw[List.Nodup,List.pairwise_map]at j⊢;refine List.Pairwise.imp_of_mem (λ{a b} k l i e=>i ?_) j;have m:=(h.qy a k).at';have n:=(h.qy b l).at';have:a.slot=b.slot:=by have:=d a k;have:=d b l;omega
  rw[this,n]at m;exact(Option.some.inj m).symm
 have:=Bb x.who.length _ g (λq o=>by
  obtain⟨y,f,rfl⟩:=List.mem_map.1 o;exact(d y f).1)
 rw[cr]at this;omega
end
end Go.Proofs.YtjpnlfpompnpkaaGreat
