import Derived.Test.YtjpnlfpompnpkaaGreatP15
import Derived.Test.YtjpnlfpompnpkaaGreatP16
namespace Go.Proofs.YtjpnlfpompnpkaaGreat
open Go.RowKit Go.Proofs.Tryz
open Go.Value renaming int->an,slice->av,bool->aw,string->aA,tuple->aM,pointer->aL,agg->aG
open Go.IntKind renaming i64->ar
open Go.Ending renaming returned->ax
open Go.Obj renaming cells->aB
open Go renaming World->ae,Value->ah,Calls->aj,Ending->ak
open Go.RowKit renaming Below->ai
set_option maxRecDepth 100000
set_option linter.all false
set_option maxHeartbeats 1000000
open Go.ChangeMaps mX
variable{P:Tg->Prop}{τ br:cj}{w w':ae}{c:aV}
def jT(t:bZ)(v:ah):List ah:=[an ar t.id,aA t.text,an ar t.k,an ar t.n,v,aw t.done,aw t.cancelled]
def xB(t:bZ)(v:ah):ah:=aG #[t.id,aA t.text,t.k,(t.n:Int),v,aw t.done,aw t.cancelled]
def EO{g:Nat}{t:bZ}{fa:Option Addr}{fn fc:Nat}(h:w.heap[g]? =some (aB (jT t (av fa fn fc)).toArray 68 (0,0))):(loadVar 68 ⟨g,0,none⟩).run prog w=.ok (xB t (av fa fn fc)) w:=
 run_loadVar_row w g 68 68 _ (0,0) _ h underlying68 rfl (by kernel_rfl)
def qA(w:ae)(g:Nat)(t:bZ)(v:ah):ae:=
 (World.setCell (World.setCell (World.setCell (World.setCell (World.setCell (World.setCell (World.setCell w ⟨g,0,none⟩ t.id) ⟨g,1,none⟩ (aA t.text)) ⟨g,2,none⟩ t.k) ⟨g,3,none⟩ (t.n:Int)) ⟨g,4,none⟩ v) ⟨g,5,none⟩ (aw t.done)) ⟨g,6,none⟩ (aw t.cancelled))
def vL{g:Nat}{m o p q r s u:ah}(h:w.heap[g]? =some (aB #[m,o,p,q,r,s,u] 68 (0,0)))(t:bZ)(v:ah):(qA w g t v).heap[g]? =some (aB (jT t v).toArray 68 (0,0)):=by
 have a:=aE (i:=0) h t.id;simp only[dF,cC,ct]at a;have b:=aE (i:=1) a (aA t.text);simp only[dF,cC,ct]at b;have d:=aE (i:=2) b t.k;simp only[dF,cC,ct]at d;have e:=aE (i:=3) d (t.n:Int);simp only[dF,cC,ct]at e;have f:=aE (i:=4) e v;simp only[dF,cC,ct]at f;have j:=aE (i:=5) f (aw t.done);simp only[dF,cC,ct]at j;have l:=aE (i:=6) j (aw t.cancelled);simp only[dF,cC,ct]at l;exact l
def vM(w:ae)(g:Nat)(t:bZ)(v:ah):aQ [g] w (qA w g t v):=
 (aQ.setCell (aQ.setCell (aQ.setCell (aQ.setCell (aQ.setCell (aQ.setCell (aQ.setCell (aQ.refl [g] w) ⟨g,0,none⟩ (by simp) _) ⟨g,1,none⟩ (by simp) _) ⟨g,2,none⟩ (by simp) _) ⟨g,3,none⟩ (by simp) _) ⟨g,4,none⟩ (by simp) _) ⟨g,5,none⟩ (by simp) _) ⟨g,6,none⟩ (by simp) _)
def afQ{t:bZ}{v:ah}{T:Option Nat}(F:Seg w 83 2 T v (dT t.items) t.items.length)(U:t.items.length<=1000000):
 aj prog 49 #[xB t v] w λe w'=>∃v' g',e=ax (xB t v')/\Seg w' 83 2 g' v' (dT t.items) t.items.length/\(∀b,g'=some b->w.heap.size<=b)/\(∃a n k,v'=av a n k)/\ai w w w':=by
 have⟨va,vc,V,_⟩:=F.len;have⟨u,p⟩:=aD ((w.alloc (aB #[t.id,aA t.text,t.k,(t.n:Int),v,aw t.done,aw t.cancelled] 68 (0,0))).alloc (aB #[an ar 0,aA ⟨#[]⟩,an ar 0,an ar 0,(),aw false,aw false] 68 (0,0)));have⟨B,q⟩:=aD w.heap.size;have G:u.heap[B]? =some (aB #[t.id,aA t.text,t.k,(t.n:Int),v,aw t.done,aw t.cancelled] 68 (0,0)):=by rw[p,q];exact(fH _ _ _ (by simp)).trans (a_ _ _)
 have L:u.heap[B+1]? =some (aB #[an ar 0,aA ⟨#[]⟩,an ar 0,an ar 0,(),aw false,aw false] 68 (0,0)):=by
  have:B+1=(w.alloc (aB #[t.id,aA t.text,t.k,(t.n:Int),v,aw t.done,aw t.cancelled] 68 (0,0))).heap.size:=by rw[q];simp
  rw[p,this];exact a_ _ _
 have j:ai w w u:=by rw[p];exact((aO _ _).alloc (aP _) _).alloc (by simp) _
 have W:u.heap.size=B+2:=by rw[p,q];simp
 have X:=au (O3 (F.bH (ch j) (by simp)) U);have u4:=aF G 4 rfl;have⟨Y,H,l,Z,H1⟩:=iI p q j G L;rw[V]at*;unfold xB;obtain⟨id,text,k,n,d,done,f⟩:=t;simp only at*;clear F p q j G L;go_in;go_upto_region 1 with fail
 rw[<-Y.o,<-H.o];go_wp2_with fail
 refine X.m ?_;rintro e y ⟨a,h,rfl,M,r⟩;have⟨g',N,I⟩:=M.Cs;have A:=(ch r).at Z.o (by simp);have O:=(ch r).at H1.o (by simp);have⟨z,C⟩:=aD (y.setCell ⟨B,4,none⟩ (av a d.length h));have y4:=aF A 4 rfl;have yf:=bB A 4;have J:aQ [B] y z:=by rw[C];exact(aQ.refl [B] y).setCell _ (by simp) _
 have Q:z.heap[B]? =some (aB #[id,aA text,an ar k,an ar n,av a d.length h,aw done,aw f] 68 (0,0)):=by
  rw[C];simpa using aE (i:=4) A (av a d.length h)
 have E:=J.at O (by simp);have HZ:=au C;have⟨q0,q1,q2,q3,q4,q5,q6⟩:=qN Q;have⟨r0,r1,r2,r3,r4,r5,r6⟩:=qN E;have fz:=bB E;have g:=au (show(qA z (B+1) ⟨id,text,k,n,d,done,f⟩ (av a d.length h)).heap[B+1]? =some (aB (jT ⟨id,text,k,n,d,done,f⟩ (av a d.length h)).toArray 68 (0,0))/\Seg (qA z (B+1) ⟨id,text,k,n,d,done,f⟩ (av a d.length h)) 83 2 g' (av a d.length h) (dT d) d.length/\(∀b,g'=some b->w.heap.size<=b)/\ai w w (qA z (B+1) ⟨id,text,k,n,d,done,f⟩ (av a d.length h))by
  have s:aQ [B,B+1] y (qA z (B+1) ⟨id,text,k,n,d,done,f⟩ (av a d.length h)):=(J.mono (by simp)).trans ((vM z (B+1) _ _).mono (by simp));refine⟨vL E _ _,N.bH s (λb K=>by have:=I b K;simp;omega),λb K=>by have:=I b K;have:=H.o;omega,?_⟩;have hb2:=H.o;exact(l.o.trans (r.mono l.o.size)).trans (s.below (λx hx=>by simp at hx;omega) (bD l.o.size r.size)))
 clear Q E N I M A O J C r u4;go_upto_region 2 with fail
 rw[<-HZ.o];go_wp2_with fail
 refine fS (w:=qA z (B+1) ⟨id,text,k,n,d,done,f⟩ (av a d.length h)) (dV rfl rfl (EO (t:=⟨id,text,k,n,d,done,f⟩) (fa:=a) (fn:=d.length) (fc:=h) g.o.1)) rfl ?_;exact⟨av a d.length h,g',rfl,g.o.2.1,g.o.2.2.1,⟨_,_,_,rfl⟩,g.o.2.2.2⟩
def eM(B:Nat)(w:ae)(v:ah)(ts:List bZ):Prop:=
 ∃(ms:List lN) (g:Option Nat),ms.map lN.t=ts/\Seg w 68 7 g v (ms.flatMap lN.cells) ms.length/\(∀b,g=some b->B<=b)/\∀m∈ms,Seg w 83 2 m.ig m.iv (dT m.t.items) m.t.items.length/\∀b,m.ig=some b->B<=b
def eM.nil(B:Nat)(w:ae):eM B w () []:=⟨[],none,rfl,Seg.nil _ _ _,by simp,by simp⟩
variable{B:Nat}
def eM.below{v:ah}{a:List bZ}(h:eM B w v a)(b:ai w w w'):eM B w' v a:=by
 obtain⟨f,g,i,j,k,d⟩:=h;exact⟨f,g,i,j.bH (ch b) (by simp),k,λm e=>⟨(d m e).1.bH (ch b) (by simp),(d m e).2⟩⟩
def eM.mono{B':Nat}{v:ah}{d:List bZ}(h:eM B w v d)(e:B'<=B):eM B' w v d:=by
 obtain⟨j,g,k,l,n,f⟩:=h;exact⟨j,g,k,l,λb a=>bD e (n b a),λm i=>⟨(f m i).1,λb a=>bD e ((f m i).2 b a)⟩⟩
def eM.len{v:ah}{b:List bZ}(h:eM B w v b):∃a k,v=av a b.length k/\b.length<=k/\b.length<=maxLen:=by
 obtain⟨d,g,e,f,n,o⟩:=h;have i:d.length=b.length:=by rw[<-e,cr]
 rw[<-i];have⟨a,k,j,l,m⟩:=f.len;exact⟨a,k,j,l,m⟩
def eM.push{v:ah}{f:List bZ}(h:eM B w v f)(t:bZ){v':ah}{g':Option Nat}(j:Seg w 83 2 g' v' (dT t.items) t.items.length)(A:∀b,g'=some b->B<=b)(T:f.length<=1000000)(C:B<=w):
 ∃a k w',(∀E,(Builtin.append_ #[35,35] E #[v,av (some ⟨w,0,none⟩) 1 1]).run prog (w.alloc (aB (jT t v').toArray 68 (0,0)))=.ok (av a (f.length+1) k) w')/\eM B w' (av a (f.length+1) k) (f++ [t])/\ai B w w':=by
 obtain⟨q,g,r,l,s,F⟩:=h;have u:q.length=f.length:=by rw[<-r,cr]
 have⟨G,H,n,_⟩:=j.len;have⟨U,w',I,y,o,p,J⟩:=l.push 35 underlying35 Ev rfl (by decide) (jT t v') rfl (by rw[n];simp[jT,Value.oneCell']) (by omega) (by decide);have⟨K,L,M,_⟩:=o.len;subst M;rw[u]at y o;refine⟨K,L,w',y,⟨q++ [⟨t,v',g'⟩],I,by simp[r],?_,?_,λm i=> ?_⟩,p.below (λx N=>s x (by simpa using N)) C⟩
 .rw[fQ,bF,u]
  exact o
 .intro b d
  obtain e|⟨V,e,O⟩:=J
  .exact s b (by rw[<-e,d])
  .rw[e]at d
   simp only[bA]at d;omega
 .obtain i|i:=List.mem_append.1 i
  .have⟨z,Q⟩:=F m i
   exact⟨z.bH p (λb d e=>jW l z (by decide) b d (by simpa using e)),Q⟩
  .rw[List.mem_singleton.1 i]
   exact⟨j.bH p (λb d e=>jW l j (by decide) b d (by simpa using e)),A⟩
def afR{m:jG}{x:cB}(h:cJ c τ w m x)(hl:x.told.length<=1000000)(hn:∀t∈x.told,t.items.length<=1000000):
 aj prog 30 #[m.cb] w λe w'=>∃v,e=ax v/\eM w w' v x.told/\ai w w w':=by
 have p:m.ts.length=x.told.length:=by rw[<-h.dv,cr]
 have H:=au h;have hc:=h.cells;have M:=hc.c18;have⟨da,YJ,O,dl1,T⟩:=h.d.s.len;rw[O,p]at M;rw[p]at dl1 T;unfold maxLen at T;have⟨HN,HLEN,HDV⟩:=aX hn p O;have⟨N,hN⟩:=aD x.told.length;rw[<-hN]at M dl1 T hl;have U2:=au hN;have ke:=au (show∀v y,eM w y v (x.told.take N)->ai w w y->∃C,Ending.returned v=ax C/\eM w y C x.told/\ai w w y fromλv y k1 k2=>by
  rw[hN,fR]at k1;exact⟨v,rfl,k1,k2⟩)
 have⟨Q,hQ⟩:= @aD (ak->ae->Prop) (λe w'=>∃v,e=ax v/\eM w w' v x.told/\ai w w w');have HQ:=au (show∀v y,eM w y v (x.told.take N)->ai w w y->Q (ax v) y fromλv y k1 k2=>by
  rw[hQ];have⟨C,e,k3,k4⟩:=ke.o v y k1 k2;exact⟨C,e,k3,k4⟩)
 rw[<-hQ];clear hQ hN p O hn h hc;go_in;go_wp2_with fail
 go_loopw [3,13] (λv i wr=>∃j:Nat,i=an ar j/\j<=N/\eM w wr v (x.told.take j)/\ai w w wr) (λ_ i _=>N-(intOf i).toNat)
 case atStart=>exact⟨0,rfl,bz _,by rw[List.take_zero];exact eM.nil _ _,aO _ _⟩
 case round=>
  obtain⟨j,rfl,hj,ht,J⟩:=hrel;by_cases hlt:j<N
  .have U:j<x.told.length:=by rw[<-U2.o];exact hlt
   have E:j<m.ts.length:=by rw[HLEN.o];exact U
   have⟨t,F⟩:=aD (x.told[j]);have h1:=H.o.fu J;have⟨b,off,cp,e1,e2,e3,e4⟩:=h1.d.s.cell (by decide) j E;rw[HDV.o]at e2;simp only[bG]at e2;obtain⟨rfl,_,rfl⟩:=e2;have V:(m.ts[j]).t=t:=by
    have e:(m.ts.map lN.t)[j]? =x.told[j]? :=by rw[H.o.dv]
    simpa[E,U,<-F]using e
   have l:=h1.d.r j E;have⟨iv,W⟩:=aD ((m.ts[j]).iv);have K:∀q u,q<7->(jT t iv)[q]? =some u->wr.cell? ⟨b,off+j*7+q,none⟩=some u:=λq u hq X=>(e4 q u hq (by rw[eT (f:=lN.cells) (λ_=>rfl) _ _ _ E hq];rw[<-V,W]at X;exact X)).1
   rw[V,<-W]at l;have g0:=K 0 _ (by decide) rfl;have g1:=K 1 _ (by decide) rfl;have g2:=K 2 _ (by decide) rfl;have g3:=K 3 _ (by decide) rfl;have g4:=K 4 _ (by decide) rfl;have g5:=K 5 _ (by decide) rfl;have g6:=K 6 _ (by decide) rfl;simp only[bM]at g0;have⟨ia,ic,L,_⟩:=l.len;rw[L]at l g4;have HTN:=au (show t.items.length<=1000000 from HN.o t (by rw[F];exact eA _));have⟨u,X⟩:=aD (wr.alloc (aB (jT t (av ia t.items.length ic)).toArray 68 (0,0)));have G:ai wr wr u:=by rw[X];exact(aO _ _).alloc (aP _) _
   have g:u.heap[wr.heap.size]? =some (aB (jT t (av ia t.items.length ic)).toArray 68 (0,0)):=by rw[X];exact a_ _ _
   have⟨HOW,Y,HT⟩:=aX (show aj prog 49 #[aG #[t.id,aA t.text,t.k,(t.n:Int),av ia t.items.length ic,aw t.done,aw t.cancelled]] u λe w'=>∃C g',e=ax (aG #[t.id,aA t.text,t.k,(t.n:Int),C,aw t.done,aw t.cancelled])/\Seg w' 83 2 g' C (dT t.items) t.items.length/\(∀b,g'=some b->u.heap.size<=b)/\(∃a n k,C=av a n k)/\ai u u w' from afQ (l.bH (ch G) (by simp)) HTN.o) (show x.told.take (j+1)=x.told.take j++ [t]by rw[fG U,F]) (ht.below G);have hbu:=J.trans (G.mono J.size);have⟨Z,HLJ⟩:=aK hbu (show(x.told.take j).length=j by rw[dw];omega);have d0:u.cell? wr.heap.size=t.id:=by simp[World.cell?,g,jT]
   have d1:u.cell? ⟨wr,1,none⟩=some (aA t.text):=by simp[World.cell?,g,jT]
   have d2:u.cell? ⟨wr,2,none⟩=t.k:=by simp[World.cell?,g,jT]
   have d3:u.cell? ⟨wr,3,none⟩=(t.n:Int):=by simp[World.cell?,g,jT]
   have d4:u.cell? ⟨wr,4,none⟩=some (av ia t.items.length ic):=by simp[World.cell?,g,jT]
   have d5:u.cell? ⟨wr,5,none⟩=some (aw t.done):=by simp[World.cell?,g,jT]
   have d6:u.cell? ⟨wr,6,none⟩=some (aw t.cancelled):=by simp[World.cell?,g,jT]
   have HU:=au (show u=wr.alloc (aB #[t.id,aA t.text,t.k,(t.n:Int),av ia t.items.length ic,aw t.done,aw t.cancelled] 68 (0,0))from X);have q1:(0:Int)<=(j:Int):=by omega
   have q2:(j:Int)<(N:Int):=by omega
   clear ht J h1 e1 e4 V l W L K X G g hbu F;go_upto_region 7 with fail
   rw[<-HU.o];go_wp2_with fail
   refine HOW.m ?_;rintro e y1 ⟨C,g',rfl,s1,s2,⟨a1,a2,a3,rfl⟩,hy1⟩;have z:=Z.o.trans (hy1.mono Z.o.size);have⟨pa,pk,w2,A,I,hb2⟩:=(HT.o.below hy1).push t s1 (λb J=>bD Z.o.size (s2 b J)) (by rw[HLJ.o];omega) z.size;rw[HLJ.o]at A I;rw[<-Y.o]at I;have⟨gN,HL2,HB2⟩:=aX (show∀ty,(Builtin.append_ #[35,35] ty #[u3,av (some ⟨y1,0,none⟩) 1 1]).run prog (y1.alloc (aB #[t.id,aA t.text,t.k,(t.n:Int),av a1 a2 a3,aw t.done,aw t.cancelled] 68 (0,0)))=.ok (av pa (j+1) pk) w2 from A) I (z.trans hb2);clear A I hb2 z s1 s2 hy1 g0 g1 g2 g3 g4 g5 g6 d0 d1 d2 d3 d4 d5 d6 M;go_wp2_with (refine cE (by rfl) (.tmp 17) (.tmp 20) 35 (by rfl) _ _ _ w2 (by rfl) (by rfl) (gN.o _) ?_);go_roundw
   case rel=>exact⟨j+1,by simp,by omega,HL2.o,HB2.o⟩
   case measure=>simp[intOf];omega
  .obtain rfl:j=N:=by omega
   have HE:=au (HQ.o _ _ ht J);clear ht J;go_wp2;exact HE.o
def KD{m:jG}{x:cB}(h:cJ c τ w m x)(j:Nat)(hj:j<x.told.length)(hn:(x.told[j]).items.length<=1000000):
 aj prog 34 #[m.cb,an ar ((j:Int)+1)] w λe w'=>∃v g,e=ax (aM #[xB (x.told[j]) v,aw true])/\Seg w' 83 2 g v (dT (x.told[j]).items) (x.told[j]).items.length/\(∀b,g=some b->w.heap.size<=b)/\(∃a n k,v=av a n k)/\ai w w w':=by
 have A:m.ts.length=x.told.length:=by rw[<-h.dv,cr]
 have B:j<m.ts.length:=by omega
 have⟨u,hu⟩:=aD (w.alloc (aB #[an ar 0,aA ⟨#[]⟩,an ar 0,an ar 0,(),aw false,aw false] 68 (0,0)));have p:ai w w u:=by rw[hu];exact(aO _ _).alloc (aP _) _
 have K:u.heap[w.heap.size]? =some (aB #[an ar 0,aA ⟨#[]⟩,an ar 0,an ar 0,(),aw false,aw false] 68 (0,0)):=by rw[hu];exact a_ _ _
 have W:=h.fr (P:=λ_=>False) (Fr.eS p _ τ) (λ_ _ e=>e) (λe=>e);have C:=W.cells.c18;have pl:=W.cells.lt;have⟨da,YJ,L,X,M⟩:=W.d.s.len;rw[L,A]at C;rw[A]at X M;unfold maxLen at M;have⟨b,off,cp,e1,e2,e3,e4⟩:=W.d.s.cell (by decide) j B;rw[L]at e2;simp only[bG]at e2;obtain⟨rfl,_,rfl⟩:=e2;have⟨t,O⟩:=aD (x.told[j]);rw[<-O]at hn⊢;have Q:(m.ts[j]).t=t:=by
  have e:(m.ts.map lN.t)[j]? =x.told[j]? :=by rw[h.dv]
  simpa[B,hj,<-O]using e
 have y:=W.d.r j B;have⟨iv,T⟩:=aD ((m.ts[j]).iv);have I:∀q v,q<7->(jT t iv)[q]? =some v->u.cell? ⟨b,off+j*7+q,none⟩=some v:=λq v U hv=>(e4 q v U (by rw[eT (f:=lN.cells) (λ_=>rfl) _ _ _ B U];rw[<-Q,T]at hv;exact hv)).1
 rw[Q,<-T]at y;have g0:=I 0 _ (by decide) rfl;have g1:=I 1 _ (by decide) rfl;have g2:=I 2 _ (by decide) rfl;have g3:=I 3 _ (by decide) rfl;have g4:=I 4 _ (by decide) rfl;have g5:=I 5 _ (by decide) rfl;have g6:=I 6 _ (by decide) rfl;simp only[bM]at g0;have⟨ia,ic,J,_⟩:=y.len;rw[J]at y g4;have HOW:=au (afQ y hn);have⟨N,hN⟩:=aD x.told.length;rw[<-hN]at C X M hj;have⟨cb,Y⟩:=aD m.cb;rw[<-Y]at C pl⊢;have⟨q,U⟩:=aD w.heap.size;have HQ:=au U;rw[<-U]at K;have⟨V,Cw,HU⟩:=aX K p hu;obtain⟨id,text,k,n,i,done,l⟩:=t;simp only at g0 g1 g2 g3 g5 g6;have q1:¬((j:Int)+1<1):=by omega
 have q2:¬((N:Int)<(j:Int)+1):=by omega
 have q3:(0:Int)<=(j:Int):=by omega
 have q4:(j:Int)<(N:Int):=by omega
 clear h W hu p K y I T J Q O e1 e4 hN Y U A B L;go_in;go_upto_region 1 with fail
 rw[<-HU.o,<-HQ.o];go_upto_region 3 with fail
 have hs:(j:Int)+1-1=(j:Int):=by omega
 have hs1:(j:Int)+1<=9223372036854775807:=by omega
 go_wp2_with fail
 refine HOW.m ?_;rintro e Z ⟨v',g',rfl,s1,s2,⟨E,F,G,rfl⟩,H⟩;have z1:=(H.block q (az V.o)).trans V.o;have⟨r0,r1,r2,r3,r4,r5,r6⟩:=qN z1;have fz:=bB z1;have cz:=vM Z q ⟨id,text,k,n,i,done,l⟩ (av E F G);have z:=au (show(qA Z q ⟨id,text,k,n,i,done,l⟩ (av E F G)).heap[q]? =some (aB (jT ⟨id,text,k,n,i,done,l⟩ (av E F G)).toArray 68 (0,0))/\Seg (qA Z q ⟨id,text,k,n,i,done,l⟩ (av E F G)) 83 2 g' (av E F G) (dT i) i.length/\(∀b,g'=some b->w.heap.size<=b)/\ai w w (qA Z q ⟨id,text,k,n,i,done,l⟩ (av E F G))by
  have hus:=az V.o;have p:=Cw.o;have U:=HQ.o;exact⟨vL z1 _ _,s1.bH cz (λb hb=>by have:=s2 b hb;simp;omega),λb hb=>by have:=s2 b hb;have:=p.size;omega,(p.trans (H.mono p.size)).trans (cz.below (λx hx=>by simp only[cm]at hx;omega) (bD p.size H.size))⟩)
 clear z1 s1 s2 H cz g0 g1 g2 g3 g4 g5 g6 C;unfold xB;go_wp2_with fail
 refine fS (w:=qA Z q ⟨id,text,k,n,i,done,l⟩ (av E F G)) (kN rfl rfl (EO (t:=⟨id,text,k,n,i,done,l⟩) (fa:=E) (fn:=F) (fc:=G) z.o.1)) rfl ?_;exact⟨av E F G,g',rfl,z.o.2.1,z.o.2.2.1,⟨_,_,_,rfl⟩,z.o.2.2.2⟩
end Go.Proofs.YtjpnlfpompnpkaaGreat
