import Derived.Test.YtjpnlfpompnpkaaGreatP15
import Derived.Test.YtjpnlfpompnpkaaGreatP16
namespace Go.Proofs.YtjpnlfpompnpkaaGreat
open Go.RowKit Go.Proofs.Tryz
open Go.Value renaming int->an,slice->av,bool->aw,string->aA,tuple->aM,pointer->aL,agg->aG
open Go.IntKind renaming i64->ar
open Go.Ending renaming returned->ax
open Go.Obj renaming cells->aB
open Go renaming World->ae,Value->ah,Calls->aj,Ending->ak
open Go.RowKit renaming Below->ai
set_option maxRecDepth 100000
set_option linter.all false
set_option maxHeartbeats 2000000
open Go.ChangeMaps mX
variable{w w':ae}{c:aV}
def RB:(prog.info? 43).map (λi=>(i.zero,i.size,i.bytes))=some (some (av none 0 0),1,24):=by kernel_rfl
def PJ(c:aV)(uv pv lv sv tv:ah)(mb:Nat):List ah:=[(),uv,an ar c.workers,an ar c.copies,an ar c.slots,an ar c.batch,an ar c.aS,an ar c.dY,an ar c.first,an ar c.cap,an ar c.b_,an ar c.net,pv,an ar 0,lv,sv,tv,.map (some mb),()]
structure vN(c:aV)(w:ae)(bc cb mb:Nat)(uv:ah)(ug:Option Nat)(j:Nat)(pv:ah)(pg:Option Nat)(cs:List Et)(wr:ae):Prop where
 bx:wr.heap[cb]? =some (aB (PJ c uv pv (aL none) (aL none) (aL none) mb).toArray 111 (0,0))
 bb:wr.heap[bc]? =some (aB (c.trim uv).cells.toArray 25 (0,0))
 mp:wr.heap[mb]? =some (.map #[] 0)
 cu:Seg wr 116 2 ug uv (c.cuts.flatMap fI.cells) c.cuts.length
 row:Seg wr 43 1 pg pv (cs.flatMap Et.cells) cs.length
 r:∀m∈cs,Seg wr 3 1 m.g m.v (m.xs.flatMap dX) m.xs.length
 xs:cs.map Et.xs=(List.range j).map λs:Nat=>bR c (s:Int)
 lw:ai w w wr
 o0:w.heap.size<=bc
 o1:bc<mb
 o2:mb<cb
 o3:∀b,ug=some b->w.heap.size<=b/\b<mb/\b≠bc
 o4:∀b,pg=some b->cb<b
 o5:∀m∈cs,∀b,m.g=some b->cb<b
def vN.lt{b a d:Nat}{e:ah}{f:Option Nat}{j:Nat}{g:ah}{i:Option Nat}{cs:List Et}{wr:ae}(h:vN c w b a d e f j g i cs wr):a<wr:=az h.bx
def vN.below{b d e:Nat}{f:ah}{g:Option Nat}{j:Nat}{i:ah}{k:Option Nat}{cs:List Et}{wr y:ae}(h:vN c w b d e f g j i k cs wr)(l:ai wr wr y):vN c w b d e f g j i k cs y:=by
 have a:=ch l;exact⟨a.at h.bx (by simp),a.at h.bb (by simp),a.at h.mp (by simp),h.cu.bH a (by simp),h.row.bH a (by simp),λm n=>(h.r m n).bH a (by simp),h.xs,h.lw.trans (l.mono h.lw.size),h.o0,h.o1,h.o2,h.o3,h.o4,h.o5⟩
theorem vN.push{N f O:Nat}{P:ah}{Q:Option Nat}{j:Nat}{T:ah}{A:Option Nat}{cs:List Et}{wr:ae}(h:vN c w N f O P Q j T A cs wr){v:ah}(W:fU (f+1) wr v (bR c (j:Int)))(hn:cs.length<=1000):
 ∃v' q,(∀X,(Builtin.append_ #[105,105] X #[T,av (some ⟨wr,0,none⟩) 1 1]).run prog (wr.alloc (aB #[v] 43 (0,0)))=.ok v' q)/\q.heap[f]? =wr.heap[f]? /\(∃a n k,v'=av a n k)/\∃B C,vN c w N f O P Q (j+1) v' B C (q.setCell ⟨f,12,none⟩ v'):=by
 have⟨g,E,U⟩:=Own.Cs W;have⟨va,vk,F,_⟩:=E.len;have⟨v',q,G,Y,V,s,Z⟩:=h.row.push 105 underlying105 RB rfl (by decide) [v] rfl (by rw[F];simp[Value.oneCell']) (by omega) (by decide);have⟨pa,pk,H,_⟩:=V.len;have I:=h.lt;have t:f∉A.toList:=λe=>by have:=h.o4 f (by simpa using e);omega
 have p:∀b,b<=f->b∉A.toList:=λb d e=>by have:=h.o4 b (by simpa using e);omega
 have l:aQ [f] q (q.setCell ⟨f,12,none⟩ v'):=(aQ.refl _ _).setCell _ (by simp) _;have u:=s.at h.bx t;refine⟨v',q,Y,s.block f I t,⟨_,_,_,H⟩,G,cs++ [⟨bR c (j:Int),v,g⟩],?_⟩;have J:=h.o1;have K:=h.o2;have L:=h.o0;have y:∀b,G=some b->f<b:=λb d=>by
  obtain e|⟨b',e,hb'⟩:=Z
  .exact h.o4 b (by rw[<-e,d])
  .rw[e]at d
   simp only[bA]at d;omega
 have z:Seg q 43 1 G v' ((cs++ [(⟨bR c (j:Int),v,g⟩:Et)]).flatMap Et.cells) (cs++ [(⟨bR c (j:Int),v,g⟩:Et)]).length:=by
  rw[fQ,bF];exact V
 refine⟨by simpa[PJ]using aE (i:=12) u v',l.at (s.at h.bb (p _ (by omega))) (by simp;omega),l.at (s.at h.mp (p _ (by omega))) (by simp;omega),(h.cu.bH s (λb d=>p _ (by have:=h.o3 b d;omega))).bH l (λb d=>by have:=h.o3 b d;simp;omega),z.bH l (λb d=>by have:=y b d;simp;omega),λm o=> ?_,?_,?_,L,J,K,h.o3,y,λm o=> ?_⟩
 .have:Seg q 3 1 m.g m.v (m.xs.flatMap dX) m.xs.length/\∀b,m.g=some b->f<b:=by
   obtain o|o:=List.mem_append.1 o
   .exact⟨(h.r m o).bH s (λb d e=>jW h.row (h.r m o) (by decide) b d (by simpa using e)),h.o5 m o⟩
   .rw[List.mem_singleton.1 o]
    exact⟨E.bH s (λb d e=>jW h.row E (by decide) b d (by simpa using e)),λb d=>by have:=U b d;omega⟩
  exact this.1.bH l (λb d=>by have:=this.2 b d;simp;omega)
 .rw[gF,h.xs,List.range_succ,gF]
  rfl
 .refine(h.lw.trans (s.below (λx M=> ?_) h.lw.size)).trans (l.below (λx M=> ?_) (bD h.lw.size s.size))
  .have:=h.o4 x (by simpa using M);omega
  .simp at M;omega
 .obtain o|o:=List.mem_append.1 o
  .exact h.o5 m o
  .rw[List.mem_singleton.1 o]
   exactλb d=>by have:=U b d;omega
def NH{z:ah}{b:Nat}(h:w.heap[b]? =some (.map #[] 0)):je z w b (λ_=>none) 0:=by
 have a:=az h;have⟨W,d⟩:= @aD ae ({w with heap:=w.heap.extract 0 b});have hs:W.heap.size=b:=by rw[d];simp;omega
 have hm:=je.made z W;rw[hs]at hm;refine hm.same ?_;rw[h];have:=a_ W (.map #[] 0);rw[hs]at this;exact this.symm
def vN.fin{A g j:Nat}{o:ah}{y:Option Nat}{p:ah}{z:Option Nat}{cs:List Et}{y0:ae}(h:vN c w A g j o y (aZ c).toNat p z cs y0)(τ:cj){lp sp sa sb tp:Nat}{i:ae}(s:∀k∈c.cuts,k.text.size<=1000)
 (C:dH i lp c.workers c.aS (List.replicate 6 ⟨0,0,0⟩)) (E:eB i sp sa sb (List.replicate c.slots.toNat 0) 0) (F:mR i tp 24 none (λ_=>none) 0)
 (P:y0.heap.size<=lp) (Q:y0.heap.size<=sp/\y0.heap.size<=sa/\y0.heap.size<=sb) (T:y0.heap.size<=tp) (U:lp≠sp/\lp≠sa/\lp≠sb/\lp≠tp) (V:sp≠tp/\sa≠tp/\sb≠tp) (n:aQ [g] y0 i)
 (t:i.heap[g]? =some (aB (PJ c o p lp sp tp j).toArray 111 (0,0))):
 ∃br m,cJ c br i m (xm c)/\m.cb=g/\Fr (λ_=>False) τ br w i/\(∀b,w.heap.size<=b->dB (br b)∨br b=.keep):=by
 have⟨br,d⟩:= @aD cj (λq=>if q<w.heap.size then τ q else if q=g then .co else if q=lp then .aS else if q=sp∨q=sa∨q=sb then .slot else if q=tp then .timer else if q=j then .FO else .keep);have G:=h.lt;have W:=h.o0;have X:=h.o1;have Y:=h.o2;have e:=h.lw.trans (n.below (B:=w.heap.size) (by intro x H;simp at H;omega) h.lw.size);have u:∀b,w.heap.size<=b->b<y0.heap.size->b≠g->b≠j->br b=.keep:=λb Z h2 I J=>by
  rw[d];simp only;rw[aC (by omega),aC I,aC (by omega),aC (by omega),aC (by omega),aC J]
 have K:br g=.co:=by rw[d];simp only;rw[aC (by omega)];simp
 have L:br lp=.aS:=by rw[d];simp only;rw[aC (by omega),aC (by omega)];simp
 have v:∀q,q=sp∨q=sa∨q=sb->br q=.slot:=λq M=>by
  rw[d];simp only;rw[aC (by omega),aC (by omega),aC (by omega),aI M]
 have N:br tp=.timer:=by rw[d];simp only;rw[aC (by omega),aC (by omega),aC (by omega),aC (by omega)];simp
 have O:br j=.FO:=by rw[d];simp only;rw[aC (by omega),aC (by omega),aC (by omega),aC (by omega),aC (by omega)];simp
 refine⟨br,⟨g,o,y,p,z,cs,lp,sp,sa,sb,tp,none,j,[],(),none,[]⟩,⟨t,⟨h.cu.bH n (λb a=>by have:=h.o3 b a;simp;omega),s,λb a=> ?_⟩,⟨h.row.bH n (λb a=>by have:=h.o4 b a;simp;omega),λm f=>(h.r m f).bH n (λb a=>by have:=h.o5 m f b a;simp;omega),λb a=> ?_,λm f b a=> ?_⟩,h.xs,⟨C,L⟩,⟨E,v _ (.inl rfl),v _ (.inr (.inl rfl)),v _ (.inr (.inr rfl))⟩,⟨F,λb a=> ?_⟩,⟨?_,λm f=>bL f (ez),List.nodup_nil,O⟩,rfl,⟨Seg.nil _ _ _,λk l=>bL l (kG _),λb a=>(by cases a),λk l=>bL l (kG _)⟩,rfl,K⟩,rfl,⟨e.os,e.tape,e.output,e.size,λk l=>by rw[d];simp only;rw[aI l],λk l _=>e.block k l⟩,λb a=> ?_⟩
 .have:=h.o3 b a
  exact u b this.1 (by omega) (by omega) (by omega)
 .have:=h.o4 b a
  have:=h.row.lt b a;exact u b (by omega) this (by omega) (by omega)
 .have:=h.o5 m f b a
  have:=(h.r m f).lt b a;exact u b (by omega) this (by omega) (by omega)
 .rw[show b=tp by simpa using a]
  exact N
 .show je (aL none) i j (ur []) 0
  have f:=n.at h.mp (by simp;omega);exact NH f
 .rw[d]
  simp only;rw[aC (by omega)];split
  .exact .inl (by simp[dB])
  .split
   .exact .inl (by simp[dB])
   .split
    .exact .inl (by simp[dB])
    .split
     .exact .inl (by simp[dB])
     .split
      .exact .inl (by simp[dB])
      .exact .inr rfl
def dH.keep{p:Nat}{n a:Int}{L:List qF}(h:dH w p n a L)(b:w'.heap[p]? =w.heap[p]?):dH w' p n a L:=⟨b.trans h.c,h.l,h.n1,h.n5,h.t1,h.t2,h.ok⟩
def eB.keep{p a b:Nat}{e:List Int}{d:Int}(h:eB w p a b e d)(f:w'.heap[p]? =w.heap[p]?)(g:w'.heap[a]? =w.heap[a]?)(i:w'.heap[b]? =w.heap[b]?):eB w' p a b e d:=
 ⟨f.trans h.1,h.2.1.same g,h.2.2.1.same i,h.2.2.2⟩
def PK{y:ae}{b:ah}{d:Option Nat}(h:Seg y 116 2 d b (c.cuts.flatMap fI.cells) c.cuts.length)(a:∀k∈c.cuts,k.text.size<=1000):(c.trim b).ok y:=
 ⟨⟨none,0,rfl,bz _,bz _,λi e=>bL e (kG _)⟩,aT.gP h (λ_=>rfl) (by decide),λs f=>(by cases f),a⟩
def Vp(c:aV)(τ:cj)(w:ae)(e:ak)(w':ae):Prop:=
 ∃br m,e=ax (aM #[m.cb,an ar 0])/\cJ c br w' m (xm c)/\Fr (λ_=>False) τ br w w'/\(∀b,w.heap.size<=b->dB (br b)∨br b=.keep)
def RC(c:aV)(τ:cj)(w:ae)(hok:c.ok w)(hm:fX c=true):aj prog 57 #[c.val] w (Vp c τ w):=by
 have hbd:=aV.bounds hm;have⟨u,hu⟩:=aD (w.alloc (aB c.cells.toArray 25 (0,0)));have⟨V,hg,hl⟩:=dt hu;have⟨f,hbc⟩:=aD w.heap.size;rw[<-hbc]at V hl;have hmc:=D1 c u (hok.below hg.aJ);rw[hm]at hmc;have⟨HM,HU,G,HB1⟩:=c_ (show aj prog 46 #[aG #[c.wv,c.cv,c.workers,c.copies,c.slots,c.batch,c.aS,c.dY,c.first,c.cap,c.b_,c.net]] u λe w'=>e=ax (aw true)/\ai u u w' from hmc) (show u=w.alloc (aB #[c.wv,c.cv,c.workers,c.copies,c.slots,c.batch,c.aS,c.dY,c.first,c.cap,c.b_,c.net] 25 (0,0))from hu) hg.aJ V;have H:∀(y:ae) (X wv:ah),y.heap[f]? =some (aB #[wv,X,c.workers,c.copies,c.slots,c.batch,c.aS,c.dY,c.first,c.cap,c.b_,c.net] 25 (0,0))->
  y.cell? f=wv/\y.cell? ⟨f,1,none⟩=X/\y.cell? ⟨f,2,none⟩=c.workers/\y.cell? ⟨f,3,none⟩=c.copies/\y.cell? ⟨f,4,none⟩=c.slots/\y.cell? ⟨f,5,none⟩=c.batch/\y.cell? ⟨f,6,none⟩=c.aS/\y.cell? ⟨f,7,none⟩=c.dY/\
   y.cell? ⟨f,8,none⟩=c.first/\y.cell? ⟨f,9,none⟩=c.cap/\y.cell? ⟨f,10,none⟩=c.b_/\y.cell? ⟨f,11,none⟩=c.net/\f<y:=λy X wv h=>by
  refine⟨?_,?_,?_,?_,?_,?_,?_,?_,?_,?_,?_,?_,az h⟩<;>simp[World.cell?,h]
 have g:=au H;obtain⟨c0,c1,c2,c3,c4,c5,c6,c7,c8,c9,c10,c11,-⟩:=H u _ _ V;have⟨Y,HBC,Rt⟩:=aX hok hbc hm;have⟨Q,hQ⟩:=aD (Vp c τ w);rw[<-hQ];have⟨HQ,s⟩:=aK hQ hbd;clear hu hg hok V hm hmc H hbc hQ hbd
 show aj prog 57 #[aG #[c.wv,c.cv,c.workers,c.copies,c.slots,c.batch,c.aS,c.dY,c.first,c.cap,c.b_,c.net]] w _
 go_in;go_upto_region 1 with fail
 rw[<-HU.o,<-HBC.o];go_wp2_with fail
 refine HM.m ?_;rintro e y1 ⟨rfl,hy1⟩;have Wr:=G.o.trans (hy1.mono G.o.size);have hby:=(ch hy1).at HB1.o (by simp);obtain⟨v0,v1,-,-,-,-,-,-,-,-,-,-,vl⟩:=g.o y1 _ _ hby;have⟨HCK,Uf,Z⟩:=aX (UY (Y.o.below Wr).rc (by have:=s.o.cu;omega)) hby Wr;clear hy1 Wr hby c0 c1 c2 c3 c4 c5 c6 c7 c8 c9 c10 c11;go_wp2_with fail
 refine HCK.m ?_;rintro e y2 ⟨C,E,rfl,ho,hb2⟩;have t:=(ch hb2).at Uf.o (by simp);have⟨r,hy3⟩:=aD ((y2.setCell ⟨f,0,none⟩ ()).setCell ⟨f,1,none⟩ (av C c.cuts.length E));obtain⟨x0,x1,-,-,-,-,-,-,-,-,-,-,xl⟩:=g.o y2 _ _ t;have xf:=bB t;have hg3:aQ [f] y2 r:=by rw[hy3];exact((aQ.refl [f] y2).setCell _ (by simp) _).setCell _ (by simp) _
 have z:r.heap[f]? =some (aB #[(),av C c.cuts.length E,c.workers,c.copies,c.slots,c.batch,c.aS,c.dY,c.first,c.cap,c.b_,c.net] 25 (0,0)):=by
  rw[hy3];have q1:=aE (i:=0) t ();have q2:=aE (i:=1) q1 (av C c.cuts.length E);simpa[aV.cells]using q2
 have⟨ug,s1,s2⟩:=Own.Cs ho;have s3:=s1.bH hg3 (λb hb=>by have:=s2 b hb;simp;omega);have hw3:=(Z.o.trans (hb2.mono Z.o.size)).trans (hg3.below (by intro x hx;have:=HBC.o;simp at hx;omega) (bD Z.o.size hb2.size));have⟨y4,I⟩:=aD ((r.alloc (.map #[] 0)).alloc (aB (PJ c (av C c.cuts.length E) () (aL none) (aL none) (aL none) r.heap.size).toArray 111 (0,0)));have J:=au (show vN c w f (r.heap.size+1) r (av C c.cuts.length E) ug 0 () none [] y4 by
  have hal:ai r r y4:=by rw[I];exact((aO _ _).alloc (aP _) _).alloc (by simp) _
  have hc4:=ch hal;have e1:(r.alloc (.map #[] 0)).heap.size=r.heap.size+1:=by simp
  have akj:=az z;refine⟨?_,hc4.at z (by simp),?_,s3.bH hc4 (by simp),Seg.nil _ _ _,λm hm=>bL hm ez,rfl,hw3.trans (hal.mono hw3.size),Nat.le_of_eq HBC.o.symm,akj,Nat.lt_succ_self _,λb hb=>⟨?_,s3.lt b hb,?_⟩,λb hb=>(by cases hb),λm hm=>bL hm ez⟩
  .have:=a_ (r.alloc (.map #[] 0)) (aB (PJ c (av C c.cuts.length E) () (aL none) (aL none) (aL none) r.heap.size).toArray 111 (0,0))
   rw[e1]at this;rw[I];exact this
  .rw[I]
   exact(fH _ _ _ (by simp)).trans (a_ _ _)
  .have:=s2 b hb
   have:=Z.o.size;omega
  .have:=s2 b hb
   omega)
 have⟨SE,Nx⟩:=aK hy3 (show y4=(r.alloc (.map #[] 0)).alloc (aB #[(),av C c.cuts.length E,c.workers,c.copies,c.slots,c.batch,c.aS,c.dY,c.first,c.cap,c.b_,c.net,(),an ar 0,aL none,aL none,aL none,.map (some r),()] 111 (0,0))from I);have hmm:= @run_makeMap prog;have HB3:=au z;clear hb2 t ho hg3 z s1 s2 s3 hw3 hy3 I v0 v1 vl;go_upto_region 4 with fail
 rw[<-SE.o];have⟨t0,t1,t2,t3,t4,t5,t6,t7,t8,t9,t10,t11,tl⟩:=g.o r _ _ HB3.o;clear x0 x1 xf xl;go_upto_region 5 with fail
 rw[<-Nx.o];have⟨d,hmb⟩:=aD r.heap.size;rw[<-hmb]at J⊢;have hsv:aZ c=((aZ c).toNat:Int):=by have:=cW c;omega
 have⟨N,hN⟩:=aD ((aZ c).toNat);have hN6:N<=6:=by have:=cW c;omega
 rw[<-hN]at hsv;have⟨X,K⟩:=aD (Value.slice C c.cuts.length E);rw[<-K]at J;have HSH:=au (show aj prog 80 #[aG #[(),av C c.cuts.length E,c.workers,c.copies,c.slots,c.batch,c.aS,c.dY,c.first,c.cap,c.b_,c.net]] y4 λe w'=>e=ax (N:Int)/\ai y4 y4 w' by
  have:=zB (c.trim X) y4 (PK J.o.cu Y.o.cs);rw[xr _ Rt.o,hsv,K]at this;exact this)
 have⟨W,hW⟩:= @aD (Nat->ae->Prop) (λj wr=>∃pv pg cs,vN c w f (d+1) d X ug j pv pg cs wr);have HW:=au hW;have h4:=J.o.bb;rw[K]at h4;have⟨p0,p1,p2,p3,p4,p5,p6,p7,p8,p9,L,M,pl⟩:=g.o y4 (av C c.cuts.length E) () h4;have⟨HUV,HN,HSV⟩:=aX K hN hsv;clear h4 t0 t1 t2 t3 t4 t5 t6 t7 t8 t9 t10 t11 tl hmm hmb K hN hsv hW;go_wp2_with fail
 refine HSH.m ?_;rintro e y5 ⟨rfl,Ez⟩;have HW0:=au (show W 0 y5 by rw[HW.o];exact⟨_,_,_,J.o.below Ez⟩);clear Ez p0 p1 p2 p3 p4 p5 p6 p7 p8 p9 L M pl;go_wp2_with fail
 go_loopw [20] (λi wr=>∃j:Nat,i=an ar j/\j<=N/\W j wr) (λi _=>N-(intOf i).toNat)
 case atStart=>exact⟨0,rfl,bz _,HW0.o⟩
 case round=>
  obtain⟨j,rfl,hj,hin⟩:=hrel;rw[HW.o]at hin;obtain⟨pv,pg,cs,O⟩:=hin;have h4:=O.bb;rw[HUV.o]at h4;have⟨p0,p1,p2,p3,p4,p5,p6,p7,p8,p9,L,M,pl⟩:=g.o wr (av C c.cuts.length E) () h4;have P:=O.bx;have cbl:=O.lt;by_cases hlt:j<N
  .have⟨pa,pc,hpv,_⟩:=O.row.len
   have hcl:cs.length=j:=by have:=congrArg List.length O.xs;simpa using this
   have e12:wr.cell? ⟨d+1,12,none⟩=some pv:=by simp[World.cell?,P,PJ]
   have HCP:=au (show aj prog 81 #[aG #[(),av C c.cuts.length E,c.workers,c.copies,c.slots,c.batch,c.aS,c.dY,c.first,c.cap,c.b_,c.net],an ar j] wr.drew λe F=>∃v v' T a1 a2 a3,e=ax v/\v=av a1 a2 a3/\F.heap[d+1]? =wr.heap[d+1]? /\wr.heap.size<=F.heap.size/\(∀ty,(Builtin.append_ #[105,105] ty #[pv,av (some ⟨F,0,none⟩) 1 1]).run prog (F.alloc (aB #[v] 43 (0,0)))=.ok v' T)/\T.heap[d+1]? =wr.heap[d+1]? /\(∃a n k,v'=av a n k)/\W (j+1) (T.setCell ⟨d+1,12,none⟩ v')by
    have hd:=O.below ((aO wr wr).drew);have hcp:=OS (c.trim X) (j:Int) wr.drew (PK hd.cu Y.o.cs);rw[Ke _ Rt.o,HUV.o]at hcp;refine Calls.mono hcp ?_;rintro e F ⟨v,rfl,hv,hb⟩;have hb':=(aO wr wr).drew.trans hb;have⟨a1,a3,hvs,_⟩:=Own.len hv;have⟨v',T,r1,r2,r3,pg',cs',r4⟩:=(O.below hb').push (Own.mono hv (show d+1+1<=wr.drew.heap.size from cbl)) (by omega);exact⟨v,v',T,a1,_,a3,rfl,hvs,hb'.block _ cbl,hb'.size,r1,r2.trans (hb'.block _ cbl),r3,by rw[HW.o];exact⟨_,_,_,r4⟩⟩)
   have ue:=au P;have q1:(0:Int)<=(j:Int):=by omega
   have q2:(j:Int)<(N:Int):=by omega
   subst hpv;have afV:=au e12;clear O h4 P hcl;go_wp2_with fail
   go_region_law (first
    |(refine dm (by rfl) 81 func81 (by kernel_rfl) (by kernel_rfl) (by rfl) _ (by kernel_rfl) HCP.o ?_;rintro e F ⟨v,v',T,a1,a2,a3,rfl,rfl,k1,k2,k3,k4,⟨b1,b2,b3,rfl⟩,k5⟩;refine⟨_,rfl,?_⟩;have x1:F.cell? ⟨d+1,12,none⟩=_:=(cU k1).trans afV.o;have x2:T.cell? ⟨d+1,12,none⟩=_:=(cU k4).trans afV.o;have xf:T.frozen? ⟨d+1,12,none⟩=false:=(by simp[World.frozen?,k4,ue.o]);have xl1:d+1<F.heap.size:=iV F _ x1;have xl2:d+1<T.heap.size:=iV T _ x2;have x3:∀o,(F.alloc o).cell? ⟨d+1,12,none⟩=_:=(λo=>(((aO F F).alloc (aP _) o).cell (p:=⟨d+1,12,none⟩) xl1).trans x1);have gN:=au k3;have HWN:=au k5;clear k1 k2 k3 k4 k5)
    |(refine iU (by rfl) (.tmp 27) (.tmp 31) 105 (by rfl) _ _ _ T (by rfl) (by rfl) (gN.o _) ?_)
    |fail)
   all_goals
    go_wp2_with fail
    go_roundw
    case rel=>exact⟨j+1,by simp,by omega,HWN.o⟩
    case measure=>simp[intOf];omega
  .obtain rfl:j=N:=by omega
   have⟨HI,HLE,ue,HB4⟩:=c_ O (Qg c.workers c.aS wr s.o.w1 s.o.w2 s.o.l1 s.o.l2) P h4;have akl:f≠d+1:=by have:=O.o1;omega
   clear O P;go_wp2_with fail
   refine HLE.m ?_;rintro e y7 ⟨rfl,l1,l2⟩;have hx7:=l2.at ue.o (by simp);have NI:=l2.at HB4.o (by simp);have⟨U,hy8⟩:=aD (y7.setCell ⟨d+1,14,none⟩ wr.heap.size);have g8:aQ [d+1] y7 U:=by rw[hy8];exact(aQ.refl _ _).setCell _ (by simp) _
   have e14:y7.cell? ⟨d+1,14,none⟩=some (aL none):=by simp[World.cell?,hx7,PJ]
   have f14:=bB hx7 14;have hx8:U.heap[d+1]? =some (aB (PJ c X pv wr (aL none) (aL none) d).toArray 111 (0,0)):=by rw[hy8];simpa[PJ]using aE (i:=14) hx7 wr
   have hb8:=g8.at NI (by simpa using akl);have⟨L1,L2,G8,HX8,HB8,HY8⟩:=eC l1 l2 g8 hx8 hb8 hy8;have HSN:=au (Z0 c.slots U s.o.s1 s.o.s2);clear hx7 NI hy8 g8 hx8 hb8 l1 l2 h4 p0 p1 p2 p3 p4 p5 p6 p7 p8 p9 L M pl;go_upto_region 11 with fail
   rw[<-HY8.o];clear e14 f14;have⟨p0,p1,p2,p3,p4,p5,p6,p7,p8,p9,L,M,pl⟩:=g.o U _ _ HB8.o;go_wp2_with fail
   refine HSN.m ?_;rintro e y9 ⟨rfl,s1,s2⟩;have hx9:=(ch s2).at HX8.o (by simp);have⟨l,A⟩:=aD (y9.setCell ⟨d+1,15,none⟩ (aL (some ⟨U.heap.size+2,0,none⟩)));have g10:aQ [d+1] y9 l:=by rw[A];exact(aQ.refl _ _).setCell _ (by simp) _
   have e15:y9.cell? ⟨d+1,15,none⟩=some (aL none):=by simp[World.cell?,hx9,PJ]
   have f15:=bB hx9 15;have afW:l.heap[d+1]? =some (aB (PJ c X pv wr (aL (some ⟨U.heap.size+2,0,none⟩)) (aL none) d).toArray 111 (0,0)):=by rw[A];simpa[PJ]using aE (i:=15) hx9 (aL (some ⟨U.heap.size+2,0,none⟩))
   have⟨S1,S2,G10,afX,akm,HTN⟩:=eC s1 s2 g10 afW A (Xi l);clear hx9 A g10 afW s1 s2 p0 p1 p2 p3 p4 p5 p6 p7 p8 p9 L M pl;go_upto_region 12 with fail
   rw[<-akm.o];clear e15 f15;have m10:=az afX.o;go_wp2_with fail
   refine HTN.m ?_;rintro e y11 ⟨rfl,t1,t2⟩;have B:=t2.at afX.o (by simp);have e16:y11.cell? ⟨d+1,16,none⟩=some (aL none):=by simp[World.cell?,B,PJ]
   have f16:=bB B 16;have HE:=au (show Q (ax (aM #[aL (some ⟨d+1,0,none⟩),an ar 0])) (y11.setCell ⟨d+1,16,none⟩ l.heap.size)by
    have g12:aQ [d+1] y11 (y11.setCell ⟨d+1,16,none⟩ l.heap.size):=(aQ.refl _ _).setCell _ (by simp) _;have z8:=G8.o.size;have z10:=G10.o.size;have hl7:=az L1.o.c;have⟨hs1,hs2,hs3,_⟩:=S1.o;have hsl1:=az hs1;have hsl2:=hs2.lt;have akn:=hs3.lt;have c9:aQ [d+1] U y9:=aQ.of_below S2.o;have k1:=(G10.o.trans (t2.mono (by simp))).trans g12;have k0:=(G8.o.trans c9).trans k1;have kk:=(L2.o.mono (by simp)).trans k0;have⟨br,m,q1,q2,q3,q4⟩:=vN.fin (lp:=wr.heap.size) (sp:=U.heap.size+2) (sa:=U.heap.size) (sb:=U.heap.size+1) (tp:=l.heap.size) (HN.o▸HI.o) τ Y.o.cs (L1.o.keep (k0.block _ hl7 (by simp;omega))) (S1.o.keep (k1.block _ hsl1 (by simp;omega)) (k1.block _ hsl2 (by simp;omega)) (k1.block _ akn (by simp;omega))) (t1.kept (Kept.dC g12 t1.lt (λq hq=>by
     have:q=l.heap.size:=by simpa using hq
     simp;omega))) (aP _) (by omega) (by omega) (by omega) (by omega) kk (by simpa[PJ]using aE (i:=16) B l)
    rw[HQ.o];exact⟨br,m,by rw[q2],q1,q3,q4⟩)
   clear B t1 t2;go_wp2;exact HE.o
end Go.Proofs.YtjpnlfpompnpkaaGreat
