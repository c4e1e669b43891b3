/-
  The law TopFallen: for every input it returns true, and its arguments read as they did; under no condition but the row's.
-/
import Derived.Test.YtjpnlfpompnpkaaGreatP25
import Derived.Test.YtjpnlfpompnpkaaGreatP26
import Derived.Test.YtjpnlfpompnpkaaGreatP35
namespace Go.Proofs.YtjpnlfpompnpkaaGreat
open Go.RowKit Go.Proofs.Tryz
open Go.Value renaming int->an,slice->av,bool->aw,string->aA,tuple->aM,pointer->aL,agg->aG
open Go.IntKind renaming i64->ar
open Go.Ending renaming returned->ax
open Go.Obj renaming cells->aB
open Go renaming World->ae,Value->ah,Calls->aj,Ending->ak
open Go.RowKit renaming Below->ai
set_option maxRecDepth 100000
set_option linter.all false
set_option maxHeartbeats 2000000
open mX
variable{c:aV}{x:cB}
def N_(x:cB)(id:Int)(f:bZ->bZ)(a:∀t,(f t).items=t.items)(b:∀t,(f t).done=t.done):ox x.told (x.tell id f).told:=by
 refine⟨Nat.le_of_eq (rG x id f).symm,λk d=> ?_⟩
 show(((x.told.set _ _).getD k ()).items=_)/\((x.told.set _ _).getD k ()).done=_
 by_cases e:k=(id-1).toNat
 .subst e
  rw[kW _ _ _ _ d,aI rfl];exact⟨a _,b _⟩
 .have:=nT x id f e
  unfold cB.tell at this;simp only at this;rw[this];exact⟨rfl,rfl⟩
def G0(x:cB)(id:Int):ox x.told (cX c x id).1.told:=by
 unfold cX;split
 .exact .refl _
 .rw[pr]
  exact N_ x id _ (λ_=>rfl) (λ_=>rfl)
def G3{B:Int}(a:cI c B x)(text:ByteArray)(b n:Int):ox x.told (dq c x text b n).1.told:=by
 by_cases h:0<x.told.length
 .refine⟨(qf a text b n h).2,λk d=> ?_⟩
  rw[(qf a text b n d).1];exact⟨rfl,rfl⟩
 .exact⟨by omega,λk d=>bL d (by omega)⟩
def PY{x:di}(h:SG x){i:Int}{w:gL}(a:x.wk i=some w):w.up=false:=by
 unfold di.wk at a;split at a
 .obtain rfl:=Option.some.inj a
  exact h.dn _ (by omega)
 .cases a
def Sb{a:Int}{L:List GV}{x g:GV}(h:g∈sx a L x):g∈L∨g=x:=by
 unfold sx at h;split at h
 .obtain h|h:=List.mem_append.1 h
  .exact .inl h
  .exact .inr (List.mem_singleton.1 h)
 .exact .inl h
def uH(a:Int):∀(l:List fF) (x:di) (r:cS),SG x->(∀y∈l,1<=y.dst)->SG (dh c x r a l).1
 | [],_,_,h,_=>h
 |y::l,x,r,h,d=>by
  have e:dh c x r a (y::l)=dh c (cF c a (x,r) y).1 (cF c a (x,r) y).2 a l:=rfl;rw[e];refine uH a l _ _ ?_ λz f=>d z (du _ f)
  unfold cF;split
  .refine⟨h.dn,λg b=> ?_⟩
   obtain b|rfl:=Sb b
   .exact h.nt g b
   .exact d y (by simp)
  .exact h
def Lm{L:List GV}{i:Int}{g:GV}(h:g∈gG L i):g∈L:=by
 unfold gG at h;split at h
 .exact List.mem_of_mem_eraseIdx h
 .exact h
def Bx(w:gL):(eL w).up=false:=by
 unfold eL;cases h:w.up
 .rw[aC (by decide)];exact h
 .rw[aI rfl]
def Ln{n:Nat}{x:di}(h:f_ c n x)(a:SG x)(e:cO)(t:e.kind≠10):SG (bC c x e).1/\ox x.co.told (bC c x e).1.co.told:=by
 have i:=h.workers;unfold bC cM;by_cases e1:e.kind=1
 .rw[aI e1]
  simp only;rw[(eF 0 _ _ _).1];exact⟨uH 0 _ _ _ ⟨a.dn,a.nt⟩ λy j=>((rS (c:=c) x.co e.text e.k e.n i).1 y j).1,G3 h.co _ _ _⟩
 rw[aC e1];by_cases e2:e.kind=2
 .rw[aI e2,(eF 0 _ _ _).1]
  exact⟨uH 0 _ _ _ ⟨a.dn,a.nt⟩ λy j=>((rT (c:=c) x.co e.at' i).1 y j).1,G0 _ _⟩
 rw[aC e2];by_cases e3:e.kind=3
 .rw[aI e3]
  exact⟨⟨a.dn,a.nt⟩,.of rfl⟩
 rw[aC e3];by_cases m:e.kind=4
 .rw[aI m]
  split
  .rw[(eF _ _ _ _).1]
   unfold gM;split
   .exact⟨uH _ _ _ _ ⟨a.dn,a.nt⟩ λy j=>((F9 h.co (by omega) e.x).1 y j).1,.of (oy _ _ _)⟩
   .split
    .rename_i w d
     have f:=PY a d;have ev:dO w=(w,[]):=by unfold dO;rw[aC (by rw[f];decide)]
     rw[ev];refine⟨?_,.of rfl⟩;have:=a.upd e.node id λw i=>i
     unfold di.upd at this;rw[d]at this;exact this
    .exact⟨a,.of rfl⟩
  .exact⟨a,.of rfl⟩
 rw[aC m];by_cases o:e.kind=5
 .rw[aI o]
  unfold eE;split
  .rename_i hi
   have b:1<=(ij x.net e.at').tO:=by
    unfold ij;rw[aI hi];exact a.nt _ (uD hi)
   have l:SG {x with net:=gG x.net e.at'}:=⟨a.dn,λg b=>a.nt g (Lm b)⟩;have u:lM {x with net:=gG x.net e.at'} (ij x.net e.at').tO=false:=by
    unfold lM;rw[aC (by omega)];split
    .rename_i w d
     exact PY l d
    .rfl
   simp only;split
   .exact⟨l,.of rfl⟩
   .rw[aC (by rw[u];decide)]
    exact⟨l,.of rfl⟩
  .exact⟨a,.of rfl⟩
 rw[aC o];by_cases p:e.kind=6
 .rw[aI p]
  split
  .exact⟨⟨a.dn,λg b=>a.nt g (Lm b)⟩,.of rfl⟩
  .exact⟨a,.of rfl⟩
 rw[aC p];by_cases q:e.kind=7
 .rw[aI q]
  refine⟨⟨a.dn,λg b=> ?_⟩,.of rfl⟩;simp only[FY,pK]at b;split at b
  .rename_i f
   unfold ot at f;simp only[cV]at f;obtain b|b:=List.mem_append.1 b
   .exact a.nt g b
   .rw[List.mem_singleton.1 b]
    exact a.nt _ (uD f.1)
  .exact a.nt g b
 rw[aC q];by_cases r:e.kind=8
 .rw[aI r]
  refine⟨⟨a.dn,λg b=> ?_⟩,.of rfl⟩;simp only[sL]at b;split at b
  .rename_i f
   unfold qV at f;simp only[cV]at f;obtain b|rfl:=jC b
   .exact a.nt g b
   .have h1:=a.nt _ (uD f.1)
    exact h1
  .exact a.nt g b
 rw[aC r];by_cases s:e.kind=9
 .rw[aI s]
  exact⟨a.upd _ _ λw _=>Bx w,.of (by rw[ja])⟩
 rw[aC s,aC t];split
 .exact⟨a.upd _ _ λw i=>i,.of (by rw[ja])⟩
 .exact⟨a,.of rfl⟩
def Oa(x:di)(w:Int):(bC c x (jX 9 w 0)).1=x.upd w eL:=rfl
def Sc(x:di):(bC c x (jX 6 0 0)).1.net=gG x.net 0/\(bC c x (jX 6 0 0)).1.ws=x.ws:=by
 have e:bC c x (jX 6 0 0)=if qm x.net.length 0 then({x with net:=gG x.net 0},{(⟨jX 6 0 0,0,0,[],-1,[]⟩:cS)with lost:=[]++ [(ij x.net 0).id]})else(x,⟨jX 6 0 0,0,0,[],-1,[]⟩):=rfl
 rw[e];split
 .exact⟨rfl,rfl⟩
 .rename_i h
  refine⟨?_,rfl⟩;unfold gG;rw[aC h]
def YW(j:Nat)(x:di):Prop:=∀i,i<j->i<x.ws.length->(x.ws.getD i ()).up=false
def V2{x:di}{j:Nat}(h:YW j x)(g:j<x.ws.length):YW (j+1) (bC c x (jX 9 ((j:Int)+1) 0)).1/\(bC c x (jX 9 ((j:Int)+1) 0)).1.ws.length=x.ws.length:=by
 rw[Oa];obtain⟨_,e⟩|⟨k,d,f,e⟩:=lR x ((j:Int)+1) eL
 .exact bL (by omega) e
 .obtain rfl:k=j:=by omega
  rw[e];refine⟨λi l a=> ?_,by simp only[ds]⟩;simp only[ds]at a;simp only[aU,iW];by_cases b:k=i
  .subst b
   simp only[d,if_true,Option.getD_some];exact Bx _
  .rw[aC b]
   have:=h i (by omega) a;simpa only[aU]using this
def V3(L:List GV):(gG L 0).length=L.length-1:=by
 unfold gG qm;cases L with
 |nil=>rfl
 |cons a l=>simp
def Sd{x:di}(h:YW x.ws.length x)(d:x.net.length=0):SG x:=⟨λi a=>h i a a,λg b=>by rw[List.length_eq_zero_iff.1 d]at b;cases b⟩
def k_(n:Nat):List cO:=(List.range n).map λi:Nat=>jX 9 ((i:Int)+1) 0
def pt(n:Nat):List cO:=List.replicate n (jX 6 0 0)
def xF(n:Nat):k_ (n+1)=k_ n++ [jX 9 ((n:Int)+1) 0]:=by unfold k_;rw[List.range_succ,gF];rfl
def By(n:Nat):pt (n+1)=pt n++ [jX 6 0 0]:=List.replicate_succ'
def Bz(n:Nat):(k_ n).length=n:=by simp[k_]
def E_(n:Nat):(pt n).length=n:=by simp[pt]
def G4(c:aV)(L l:List cO):bW c (L++l)=(cT c (bW c L) l).1:=by
 unfold bW;rw[nm]
def Fa(a:fX c=true)(es:List cO):∀j:Nat,(j:Int)<=c.workers->YW j (bW c (es++k_ j))/\((bW c (es++k_ j)).ws.length:Int)=c.workers
 |0,_=>⟨λi b=>bL b (kG i),(tu a _).wl⟩
 |j+1,h=>by
  have⟨d,e⟩:=Fa a es j (by omega);have⟨f,g⟩:=V2 (c:=c) d (by omega);rw[xF,<-h_,G4];exact⟨f,by show((bC c _ _).1.ws.length:Int)=_;rw[g];exact e⟩
def Lo(L:List cO):∀j:Nat,(bW c (L++pt j)).ws=(bW c L).ws/\(bW c (L++pt j)).net.length=(bW c L).net.length-j
 |0=>by rw[show pt 0=[]from rfl,List.append_nil];exact⟨rfl,rfl⟩
 |j+1=>by
  have⟨a,b⟩:=Lo L j;have⟨d,e⟩:=Sc (c:=c) (bW c (L++pt j));rw[By,<-h_,G4]
  show(bC c _ _).1.ws=_/\(bC c _ _).1.net.length=_
  rw[d,e,V3,b];exact⟨a,by omega⟩
def Fb(c:aV)(es:List cO):List cO:=es++k_ c.workers.toNat++pt 64
def Ob(a:fX c=true)(es:List cO):SG (bW c (Fb c es)):=by
 have d:=aV.bounds a;have j:=d.w1;have⟨e,k⟩:=Fa a es c.workers.toNat (by omega);have⟨f,g⟩:=Lo (c:=c) (es++k_ c.workers.toNat) 64;have l:=(tu a (es++k_ c.workers.toNat)).nt.n;have m:=d.n2;refine Sd (λi b h=> ?_) (by unfold Fb;rw[g];omega);unfold Fb at b h⊢;rw[f]at b⊢;exact e i (by omega) b
def uI:∀(l:List cO) {n:Nat} {x:di},f_ c n x->SG x->(∀e∈l,e.kind≠10)->ox x.co.told (cT c x l).1.co.told
 | [],_,_,_,_,_=>.refl _
 |e::l,n,x,h,d,b=>by
  have⟨f,g⟩:=Ln h d e (b e (by simp));exact g.trans (uI l (rW h e) f λa i=>b a (du _ i))
def Oc(a:fX c=true)(es l:List cO)(b:∀e∈l,e.kind≠10):ox (bW c (Fb c es)).co.told (bW c (Fb c es++l)).co.told:=by
 rw[G4];exact uI l (tu a _) (Ob a es) b
open Go.ChangeMaps
variable{P:Tg->Prop}{τ br:cj}{w w' y z:ae}
def YX(c:aV)(v:ah)(es:List cO)(v2:ah)(g:List cO)(w:ae)(hc:c.rd w)(hes:aT cO.cells 7 w v es)(he:∀e∈es,te e)(VX:aT cO.cells 7 w v2 g)(he2:∀e∈g,te e):aj prog 8 #[c.val,v,v2] w λe w'=>e=ax (aw true)/\ai w w w':=by
 have⟨u,hu⟩:=aD (w.alloc (aB c.cells.toArray 25 (0,0)));have⟨hbx,hg,hl2⟩:=aV.box hu;have Y:=hl2.aJ;have hb0:u.heap[w.heap.size]? =some (aB c.cells.toArray 25 (0,0)):=by rw[hu];exact a_ _ _
 have⟨q,hq⟩:=aD w.heap.size;rw[<-hq]at hb0 hbx;have⟨Er,qH,CN,oM⟩:=c_ (hes.below Y) (hc.below Y) he (qe (hc.below Y) (hes.below Y) 200 (by decide));have⟨Q,hQ⟩:= @aD (ak->ae->Prop) (λe w'=>e=ax (aw true)/\ai w w w');have K9:=au (show∀y,ai u u y->Q (ax (aw true)) y fromλy t=>by rw[hQ];exact⟨rfl,Y.trans (t.mono Y.size)⟩);have uG:=au (show∀y,ai u u y->aj prog 14 #[] y λe z=>e=ax (aw true)/\Q (ax (aw true)) z fromλy t=>(nS y).mono λe z ⟨h1,h2⟩=>⟨h1,K9.o z (t.trans (h2.mono t.size))⟩);rw[<-hQ];have⟨C,hC⟩:=aD c;rw[<-hC]at oM qH;obtain⟨wv,cv,words,cuts,d,A,K,O,aS,U,first,cap,B,net⟩:=c;have th:=au (show∀y,ai u u y->q<y/\y.cell? q=(wv)/\y.cell? ⟨q,1,none⟩=(cv)/\y.cell? ⟨q,2,none⟩=d/\y.cell? ⟨q,3,none⟩=A/\y.cell? ⟨q,4,none⟩=K/\y.cell? ⟨q,5,none⟩=O/\y.cell? ⟨q,6,none⟩=aS/\y.cell? ⟨q,7,none⟩=U/\y.cell? ⟨q,8,none⟩=first/\y.cell? ⟨q,9,none⟩=cap/\y.cell? ⟨q,10,none⟩=B/\y.cell? ⟨q,11,none⟩=net fromλy t=>by
  have r:=(t.block q (az hb0)).trans hb0;exact⟨az r,aF r _ rfl,aF r _ rfl,aF r _ rfl,aF r _ rfl,aF r _ rfl,aF r _ rfl,aF r _ rfl,aF r _ rfl,aF r _ rfl,aF r _ rfl,aF r _ rfl,aF r _ rfl⟩)
 have⟨Dj,vR⟩:=aK (show C.workers=d by rw[hC]) (show C.val=aG #[wv,cv,d,A,K,O,aS,U,first,cap,B,net]by rw[hC];rfl);have hval:aV.val ⟨wv,cv,words,cuts,d,A,K,O,aS,U,first,cap,B,net⟩=aG #[wv,cv,d,A,K,O,aS,U,first,cap,B,net]:=rfl;have⟨HU,HQ⟩:=aK (show u=w.alloc (aB #[wv,cv,d,A,K,O,aS,U,first,cap,B,net] 25 (0,0))from hu) hq;rw[hval];rw[vR.o]at oM;have⟨ql,h0,h1,h2,h3,h4,h5,h6,h7,h8,h9,h10,h11⟩:=th.o u (aO _ _);obtain⟨va,vc,rfl,hn1,hn2,hrd⟩:=hes;unfold maxLen at hn1;have HRE:=au hrd;have⟨N,hN⟩:=aD es.length;have HN:=au hN;rw[<-hN]at hn1 hn2 oM⊢;have⟨HB0,ZH,VY,N7⟩:=c_ hb0 Y (VX.below Y) he2;obtain⟨Ky,vc2,rfl,hm1,hm2,_⟩:=VX;unfold maxLen at hm1;have⟨M,hM⟩:=aD g.length;have U4:=au hM;rw[<-hM]at hm1 hm2⊢;clear hQ hu hbx hl2 Y hq hval hC hb0 hrd hN hc he hM he2;go_in;go_upto_region 1 with fail
 rw[<-HU.o,<-HQ.o];go_wp2_with fail
 refine oM.m ?_;rintro e G ⟨b,rfl,s,hbf⟩;have ZI:=au s;obtain rfl|rfl:=Bool.eq_false_or_eq_true b
 .have HA:=au (uG.o G s)
  clear hbf s;go_wp2_with fail
  refine HA.m ?_;rintro e y1 ⟨rfl,V⟩;have HE:=au V;clear V;go_wp2;exact HE.o
 .have⟨F,hle,htx⟩:=hbf rfl
  have SD:=au (show aj prog 32 #[av Ky M vc2,an ar 100] G λe w'=>∃b,e=ax (aw b)/\G=w'/\(b=false->(M:Int)<=100/\∀x∈g,x.text.size<=100)by
   have:=p_ (VY.o.below s) 100 (by decide);rw[<-U4.o]at this;exact this)
  go_wp2_with fail
  refine SD.m ?_;rintro e y0' ⟨b,rfl,rfl,N8⟩;obtain rfl|rfl:=Bool.eq_false_or_eq_true b
  .have HA:=au (uG.o G s)
   clear hbf N8 s F hle htx;go_wp2_with fail
   refine HA.m ?_;rintro e y1 ⟨rfl,V⟩;have HE:=au V;clear V;go_wp2;exact HE.o
  have⟨hle2,VZ⟩:=N8 rfl;have hev:=rF htx CN.o;have K_:=rF VZ N7.o;have O0:N<=200:=by omega
  have hM3:M<=100:=by omega
  have La:=au (show aT cO.cells 7 G (av va N vc) es by
   have:=Er.o.below s;rw[<-HN.o]at this;exact this)
  have abV:=au (show aT cO.cells 7 G (av Ky M vc2) g by
   have:=VY.o.below s;rw[<-U4.o]at this;exact this)
  have CA:=au (show∀y,ai G G y->aj prog 14 #[] y λe z=>e=ax (aw true)/\Q (ax (aw true)) z fromλy t=>uG.o y (s.trans (t.mono s.size)));have I4:=au (show∀y,ai G G y->q<y/\y.cell? ⟨q,2,none⟩=d fromλy t=>by
   have⟨a,_,_,b,_⟩:=th.o y (s.trans (t.mono s.size));exact⟨a,b⟩)
  have J_:=au (show∀k,k<es.length->∃b o,va=some ⟨b,o,none⟩/\b<G.heap.size/\∀j v,(es.getD k ()).cells[j]? =some v->G.cell? ⟨b,o+k*7+j,none⟩=some v by
   have⟨a',c',e1,_,_,hr2⟩:=La.o;simp only[bG]at e1;obtain⟨rfl,_,_⟩:=e1;exact hr2)
  have HRV:=au (show∀k,k<g.length->∃b o,Ky=some ⟨b,o,none⟩/\b<G.heap.size/\∀j v,(g.getD k ()).cells[j]? =some v->G.cell? ⟨b,o+k*7+j,none⟩=some v by
   have⟨a',c',e1,_,_,hr2⟩:=abV.o;simp only[bG]at e1;obtain⟨rfl,_,_⟩:=e1;exact hr2)
  have E8:=au (tz (c:=C) (F.below s));rw[vR.o]at E8;have⟨qL,abW⟩:=aK hev K_;have⟨SI,uO⟩:= @aD (Nat->List cO->ae->Prop) (λl L y=>Cz C l (λb=>b<G.heap.size) G L y);have⟨HB0,sB⟩:=aK (show∀l L y,SI l L y->ai G G y fromλl L y H=>by rw[uO]at H;exact H.below (λ_ h=>h) (aP _)) (show∀l L y z,SI l L y->ai y y z->SI l L z fromλl L y z H r=>by rw[uO]at H⊢;exact H.E5 r);have HST:=au (show∀l L y (e:cO),SI l L y->L.length<=4000->tj e->∀ev,e.vl=ev->aj prog 24 #[aL (some ⟨l,0,none⟩),ev] y λW z=>∃v,W=ax v/\SI l (L++ [e]) z fromλl L y e H hl he ev hv=>by
   rw[uO]at H;subst hv;refine(H.VP (aO _ _) (by omega) e he).mono ?_;rintro W z ⟨sa,sn,sk,la,ln,lk,rfl,g1,_⟩;exact⟨_,rfl,by rw[uO];exact g1⟩)
  have uq:=au (show∀l L y,SI l L y->L.length<=4000->∃cb,aj prog 29 #[aL (some ⟨l,0,none⟩)] y (λe z=>e=ax (aL (some ⟨cb,0,none⟩))/\y=z)/\
   aj prog 30 #[aL (some ⟨cb,0,none⟩)] y (λe z=>∃v,e=ax v/\eM y z v (bW C L).co.told/\ai y y z/\Cz C l (λb=>b<G.heap.size∨y.heap.size<=b/\b<z.heap.size) z L z)fromλl L y H hl=>by
   rw[uO]at H;have⟨cb,k1,k2,_⟩:=H.ls.co (by omega);refine⟨cb,k1,k2.mono ?_⟩;rintro e z ⟨v,rfl,k3,k4⟩;exact⟨v,rfl,k3,k4,H.more k4⟩)
  have Ml:=au (show∀l y,rC C l (λb=>b<G.heap.size) (gA C) [] 0 y->ai G G y->SI l [] y fromλl y hl t=>by
   rw[uO];exact⟨hl,Kp.of_below t _,λ_ h=>h⟩)
  have⟨ql,h0,h1,h2,h3,h4,h5,h6,h7,h8,h9,h10,h11⟩:=th.o G s;clear F hle htx hev hbf N8 hle2 VZ K_ s uO;go_wp2_with fail
  refine E8.m ?_;rintro e y1 ⟨V,⟨hm,rfl⟩|⟨hm,l,rfl,hl⟩⟩
  .have HE:=au (CA.o y1 V)
   clear h0 h1 h2 h3 h4 h5 h6 h7 h8 h9 h10 h11 ql V hm;go_wp2_with fail
   refine HE.m ?_;rintro e y2 ⟨rfl,hy2⟩;have HE2:=au hy2;clear hy2;go_wp2;exact HE2.o
  .have⟨Pu,HMC⟩:=aK (Ml.o l y1 hl V) hm
   have hwb:=aV.bounds hm;have hw1:1<=d:=by rw[<-Dj.o];exact hwb.w1
   have hw5:d<=5:=by rw[<-Dj.o];exact hwb.w2
   have HVE:=au (show∀(kind node I:Int) (w:ae),aj prog 16 #[kind,node,I] w λW w'=>W=ax (aG #[an ar kind,an ar node,an ar I,an ar 0,aA ⟨#[]⟩,an ar 0,an ar 0])/\ai w w w' from evC);have⟨L1,hL1⟩:=aD es;have HL1:=au hL1;clear hl V hm hwb hL1 h0 h1 h2 h3 h4 h5 h6 h7 h8 h9 h10 h11 ql;go_wp2;go_loopw [8] (λi wr=>∃(k:Nat),k<=N/\i=an ar k/\SI l (es.take k) wr) (λi _=>N-(intOf i).toNat)
   case atStart=>exact⟨0,bz _,rfl,Pu.o⟩
   case round=>
    obtain⟨k,hk,rfl,f⟩:=hrel;by_cases X:k<N
    .have J:k<es.length:=by rw[<-HN.o];exact X
     obtain⟨b,o,rfl,r,n⟩:=J_.o k J;have hgd:es.getD k ()=es[k]:=by simp[aU,J]
     rw[hgd]at n;have F:=qL.o _ (eA J);have Z:=HST.o l _ wr (es[k]) f (by rw[dw];omega) F _ rfl;rw[<-fG J]at Z;have⟨E,hE⟩:=aD (es[k]);rw[<-hE]at n Z F;obtain⟨kd,nd,I,ex,tx,ek,W⟩:=E;obtain⟨bl,p0,p1,p2,p3,p4,p5,p6⟩:b<wr.heap.size/\wr.cell? ⟨b,o+k*7,none⟩=kd/\wr.cell? ⟨b,o+k*7+1,none⟩=nd/\wr.cell? ⟨b,o+k*7+2,none⟩=I/\wr.cell? ⟨b,o+k*7+3,none⟩=ex/\wr.cell? ⟨b,o+k*7+4,none⟩=some (aA tx)/\wr.cell? ⟨b,o+k*7+5,none⟩=ek/\wr.cell? ⟨b,o+k*7+6,none⟩=W:=by
      have t:=HB0.o _ _ _ f;exact⟨bP r t.size,by simpa using(t.cell (p:=⟨b,o+k*7+0,none⟩) r).trans (n 0 kd rfl),(t.cell (p:=⟨b,o+k*7+1,none⟩) r).trans (n 1 nd rfl),(t.cell (p:=⟨b,o+k*7+2,none⟩) r).trans (n 2 I rfl),(t.cell (p:=⟨b,o+k*7+3,none⟩) r).trans (n 3 ex rfl),(t.cell (p:=⟨b,o+k*7+4,none⟩) r).trans (n 4 (aA tx) rfl),(t.cell (p:=⟨b,o+k*7+5,none⟩) r).trans (n 5 ek rfl),(t.cell (p:=⟨b,o+k*7+6,none⟩) r).trans (n 6 W rfl)⟩
     have HX:=au (show aj prog 24 #[aL (some ⟨l,0,none⟩),aG #[kd,nd,I,ex,aA tx,ek,W]] wr λW z=>∃v,W=ax v/\SI l (es.take (k+1)) z from Z);have htx:tx.size<=maxLen:=bD F.2 (by decide);have q1:(0:Int)<=(k:Int):=by omega
     have q2:(k:Int)<(N:Int):=by omega
     clear n hgd hE r f J Z F;go_wp2_with fail
     refine HX.m ?_;rintro e z ⟨v,rfl,hz⟩;have HZ:=au hz;clear hz;go_wp2;go_roundw
     case rel=>exact⟨k+1,by omega,by go_num,HZ.o⟩
     case measure=>simp[intOf];omega
    .obtain rfl:k=N:=by omega
     rw[HN.o,fR,<-HL1.o]at f;have hL1:L1.length<=200:=by rw[HL1.o,<-HN.o];exact O0
     have HSA:=au (show SI l (L1++k_ 0) wr by rw[show k_ 0=[]from rfl,List.append_nil];exact f);clear f X hk;go_wp2;go_loopw [9] (λi wr=>∃(j:Nat),(j:Int)<=d/\i=an ar ((j:Int)+1)/\SI l (L1++k_ j) wr) (λi _=>8-(intOf i).toNat)
     case atStart=>exact⟨0,by omega,rfl,HSA.o⟩
     case round=>
      rename ae=>wr
      obtain⟨j,hj,rfl,f⟩:=hrel;have⟨ql,h2⟩:=I4.o wr (HB0.o _ _ _ f);by_cases X:(j:Int)<d
      .have HSJ:=au (λz hz=>HST.o l _ z (jX 9 ((j:Int)+1) 0) (sB.o _ _ _ z f hz) (by rw[bF,Bz];omega) ⟨show ld (0:Int)from eN (by decide) (by decide),bz _⟩ (aG #[an ar 9,an ar ((j:Int)+1),an ar 0,an ar 0,aA ⟨#[]⟩,an ar 0,an ar 0]) rfl)
       clear f;go_wp2_with fail
       refine(HVE.o _ _ _ _).mono ?_;rintro e z1 ⟨rfl,hz1⟩;have HZ1:=au (HSJ.o z1 hz1);clear hz1;go_wp2_with fail
       refine HZ1.m ?_;rintro e z ⟨v,rfl,hz⟩;have HZ:=au hz;clear hz;go_wp2;go_roundw
       case rel=>exact⟨j+1,by omega,by go_num,by rw[xF,<-h_];exact HZ.o⟩
       case measure=>simp[intOf];omega
      .have hjw:j=C.workers.toNat:=by rw[Dj.o];omega
       have⟨L2,hL2⟩:=aD (L1++k_ C.workers.toNat);have hl2:L2.length<=205:=by rw[hL2,bF,Bz,<-hjw];omega
       rw[hjw,<-hL2]at f;have⟨HSB,HL2⟩:=aK (show SI l (L2++pt 0) wr by rw[show pt 0=[]from rfl,List.append_nil];exact f) hL2;have arK:(j:Int)=d:=by omega
       clear f hjw hL2 hj;go_wp2;go_loopw [10] (λi wr=>∃(j:Nat),j<=64/\i=an ar j/\SI l (L2++pt j) wr) (λi _=>64-(intOf i).toNat)
       case atStart=>exact⟨0,by omega,rfl,HSB.o⟩
       case round=>
        rename ae=>wr
        obtain⟨j,hj,rfl,f⟩:=hrel;by_cases X:j<64
        .have HSJ:=au (λz hz=>HST.o l _ z (jX 6 0 0) (sB.o _ _ _ z f hz) (by rw[bF,E_];omega) ⟨show ld (0:Int)from eN (by decide) (by decide),bz _⟩ (aG #[an ar 6,an ar 0,an ar 0,an ar 0,aA ⟨#[]⟩,an ar 0,an ar 0]) rfl)
         have q1:(j:Int)<64:=by omega
         clear f;go_wp2_with fail
         refine(HVE.o _ _ _ _).mono ?_;rintro e z1 ⟨rfl,hz1⟩;have HZ1:=au (HSJ.o z1 hz1);clear hz1;go_wp2_with fail
         refine HZ1.m ?_;rintro e z ⟨v,rfl,hz⟩;have HZ:=au hz;clear hz;go_wp2;go_roundw
         case rel=>exact⟨j+1,by omega,by go_num,by rw[By,<-h_];exact HZ.o⟩
         case measure=>simp[intOf];omega
        .obtain rfl:j=64:=by omega
         have⟨L3,hL3⟩:=aD (Fb C L1);have e3:L2++pt 64=L3:=by rw[hL3,HL2.o];rfl
         have hl3:L3.length<=270:=by rw[<-e3,bF,E_];omega
         rw[e3]at f;have⟨cb,hc1,hc2⟩:=uq.o l L3 wr f (by omega);have⟨se,qS,HL3,Ws⟩:=c_ hc1 hc2 hL3 (HB0.o _ _ _ f);clear f hc1 hc2 hL3 e3 X hj;go_wp2_with fail
         refine aH se.o ?_;go_wp2_with fail
         refine qS.m ?_;rintro e z0 ⟨v0,rfl,ht0,hz0,hk0⟩;obtain⟨ta,tk,rfl,t1,t2⟩:=ht0.len;unfold maxLen at t2;have⟨T,hT⟩:=aD ((bW C L3).co.told.length);have⟨HT,HTA⟩:=aK hT ht0;rw[<-hT]at t1 t2⊢;have⟨SJ,hSJ⟩:= @aD (Nat->List cO->ae->Prop) (λl L y=>Cz C l (λb=>b<G.heap.size∨wr.heap.size<=b/\b<z0.heap.size) z0 L y);have hbz:=Ws.o.trans (hz0.mono Ws.o.size);have HB1:=au (show∀l L y,SJ l L y->ai G G y fromλl L y H=>by rw[hSJ]at H;exact hbz.trans (H.below (λ_ h=>.inl h) hbz.size));have HST:=au (show∀l L y (e:cO),SJ l L y->L.length<=4000->tj e->∀ev,e.vl=ev->aj prog 24 #[aL (some ⟨l,0,none⟩),ev] y λW z=>∃v,W=ax v/\SJ l (L++ [e]) z fromλl L y e H hl he ev hv=>by
          rw[hSJ]at H;subst hv;refine(H.VP (aO _ _) (by omega) e he).mono ?_;rintro W z ⟨sa,sn,sk,la,ln,lk,rfl,g1,_⟩;exact⟨_,rfl,by rw[hSJ];exact g1⟩)
         have uq:=au (show∀l L y,SJ l L y->L.length<=4000->∃cb,aj prog 29 #[aL (some ⟨l,0,none⟩)] y (λe z=>e=ax (aL (some ⟨cb,0,none⟩))/\y=z)/\
          aj prog 30 #[aL (some ⟨cb,0,none⟩)] y (λe z=>∃v,e=ax v/\eM y z v (bW C L).co.told/\eM wr z (av ta T tk) (bW C L3).co.told/\ai y y z)fromλl L y H hl=>by
          rw[hSJ]at H;have⟨cb,k1,k2,_⟩:=H.ls.co (by omega);refine⟨cb,k1,k2.mono ?_⟩;rintro e z ⟨v,rfl,k3,k4⟩;have k5:=HTA.o;rw[<-HT.o]at k5;exact⟨v,rfl,k3,(k5.kp H.kp λb h1 h2=>.inr ⟨h1,h2⟩).below k4,k4⟩)
         have HSC:=au (show SJ l (L3++bp (g.take 0) 10 10) z0 by rw[hSJ];show Cz _ _ _ _ (L3++ []) _;rw[List.append_nil];exact hk0);clear ht0 hz0 hk0 hT hSJ hbz;go_wp2;go_loopw [12] (λi wr=>∃(k:Nat),k<=M/\i=an ar k/\SJ l (L3++bp (g.take k) 10 10) wr) (λi _=>M-(intOf i).toNat)
         case atStart=>exact⟨0,bz _,rfl,HSC.o⟩
         case round=>
          rename ae=>wq
          obtain⟨k,hk,rfl,f⟩:=hrel;have hwl:=N0 g 10 k;by_cases X:k<M
          .have J:k<g.length:=by rw[<-U4.o];exact X
           obtain⟨b,o,rfl,r,n⟩:=HRV.o k J;have hgd:g.getD k ()=g[k]:=by simp[aU,J]
           rw[hgd]at n;have F:=abW.o _ (eA J);have Z:=HST.o l _ wq (g[k]) f (by rw[bF];omega) F _ rfl;have hwo:=Gi J 10;have⟨E,hE⟩:=aD (g[k]);rw[<-hE]at n Z F hwo;obtain⟨kd,nd,I,ex,tx,ek,W⟩:=E;obtain⟨bl,p0,p1,p2,p3,p4,p5,p6⟩:b<wq.heap.size/\wq.cell? ⟨b,o+k*7,none⟩=kd/\wq.cell? ⟨b,o+k*7+1,none⟩=nd/\wq.cell? ⟨b,o+k*7+2,none⟩=I/\wq.cell? ⟨b,o+k*7+3,none⟩=ex/\wq.cell? ⟨b,o+k*7+4,none⟩=some (aA tx)/\wq.cell? ⟨b,o+k*7+5,none⟩=ek/\wq.cell? ⟨b,o+k*7+6,none⟩=W:=by
            have t:=HB1.o _ _ _ f;exact⟨bP r t.size,by simpa using(t.cell (p:=⟨b,o+k*7+0,none⟩) r).trans (n 0 kd rfl),(t.cell (p:=⟨b,o+k*7+1,none⟩) r).trans (n 1 nd rfl),(t.cell (p:=⟨b,o+k*7+2,none⟩) r).trans (n 2 I rfl),(t.cell (p:=⟨b,o+k*7+3,none⟩) r).trans (n 3 ex rfl),(t.cell (p:=⟨b,o+k*7+4,none⟩) r).trans (n 4 (aA tx) rfl),(t.cell (p:=⟨b,o+k*7+5,none⟩) r).trans (n 5 ek rfl),(t.cell (p:=⟨b,o+k*7+6,none⟩) r).trans (n 6 W rfl)⟩
           have htx:tx.size<=maxLen:=bD F.2 (by decide);have q1:(0:Int)<=(k:Int):=by omega
           have q2:(k:Int)<(M:Int):=by omega
           by_cases c10:kd=10
           .have b10:(kd !=10)=false:=by simp[c10]
            rw[aI (show(⟨kd,nd,I,ex,tx,ek,W⟩:cO).kind=10 from c10)]at hwo;have⟨HZ,HWO⟩:=aK f hwo;clear n hgd hE r f J Z F hwo c10 hwl;go_wp2;go_roundw
            case rel=>exact⟨k+1,by omega,by go_num,by rw[HWO.o];exact HZ.o⟩
            case measure=>simp[intOf];omega
           .have b10:(kd !=10)=true:=by simp[c10]
            rw[aC (show¬(⟨kd,nd,I,ex,tx,ek,W⟩:cO).kind=10 from c10)]at hwo;have HX:=au (show aj prog 24 #[aL (some ⟨l,0,none⟩),aG #[kd,nd,I,ex,aA tx,ek,W]] wq λW z=>∃v,W=ax v/\SJ l (L3++bp (g.take (k+1)) 10 10) z by
             rw[hwo,<-h_];exact Z)
            clear n hgd hE r f J Z F hwo c10 hwl;go_wp2_with fail
            refine HX.m ?_;rintro e z ⟨v,rfl,hz⟩;have HZ:=au hz;clear hz;go_wp2;go_roundw
            case rel=>exact⟨k+1,by omega,by go_num,HZ.o⟩
            case measure=>simp[intOf];omega
          .obtain rfl:k=M:=by omega
           have hts:=Oc HMC.o L1 (bp (g.take k) 10 10) (λe he=>by
            unfold bp at he;have:=(List.mem_filter.1 he).2;simp only[Bool.and_self,Bool.not_eq_true',decide_eq_false_iff_not]at this;exact this)
           rw[<-HL3.o]at hts;have⟨L4,hL4⟩:=aD (L3++bp (g.take k) 10 10);have hl4:L4.length<=4000:=by rw[hL4,bF];omega
           rw[<-hL4]at hts f;have⟨cb,hc1,hc2⟩:=uq.o l L4 wq f hl4;have⟨se,qS,HTS,HBQ⟩:=c_ hc1 hc2 hts (HB1.o _ _ _ f);clear f hc1 hc2 hts hL4 hwl X hk;go_wp2_with fail
           refine aH se.o ?_;go_wp2_with fail
           refine qS.m ?_;rintro e z5 ⟨v5,rfl,ht5,ht6,hz5⟩;obtain⟨na,nk,rfl,n1,n2⟩:=ht5.len;unfold maxLen at n2;have⟨R,hR⟩:=aD ((bW C L4).co.told.length);have htr:T<=R:=by rw[hR,HT.o];exact HTS.o.1
           have HH:=au (show∀wr,ai z5 z5 wr->∀k,k<T->∃(b1 o1 b2 o2:Nat) (s1:Option Addr) (n1 k1:Nat) (s2:Option Addr) (n2 k2:Nat) (dn:Bool),na=some ⟨b1,o1,none⟩/\ta=some ⟨b2,o2,none⟩/\b1<wr/\b2<wr/\
            wr.cell? ⟨b1,o1+k*7+4,none⟩=some (av s1 n1 k1)/\wr.cell? ⟨b1,o1+k*7+5,none⟩=some (aw dn)/\wr.cell? ⟨b2,o2+k*7+4,none⟩=some (av s2 n2 k2)/\wr.cell? ⟨b2,o2+k*7+5,none⟩=some (aw dn)/\
            (∀z,ai wr wr z->aj prog 33 #[av s1 n1 k1,av s2 n2 k2] z λe w'=>e=ax (aw true)/\ai z z w')fromλwr r k hk=>by
            have hk2:k<(bW C L3).co.told.length:=by rw[<-HT.o];exact hk
            have hk1:k<(bW C L4).co.told.length:=by omega
            have⟨b1,o1,c1,i1,e1,g1,f1,x1⟩:=rX (ht5.below r) hk1;have⟨b2,o2,c2,i2,e2,g2,f2,x2⟩:=rX (ht6.below r) hk2;have⟨d1,d2⟩:=HTS.o.2 k hk2;have u1:(bW C L4).co.told.getD k ()=(bW C L4).co.told[k]:=by simp[aU,hk1]
            have u2:(bW C L3).co.told.getD k ()=(bW C L3).co.told[k]:=by simp[aU,hk2]
            rw[u1,u2]at d1 d2;rw[d1]at x1;rw[d2]at f1;simp only[bG]at e1 e2;obtain⟨rfl,_⟩:=e1;obtain⟨rfl,_⟩:=e2;obtain⟨s1,k1,rfl,_⟩:=id x1;obtain⟨s2,k2,rfl,_⟩:=id x2;exact⟨b1,o1,b2,o2,s1,_,k1,s2,_,k2,_,rfl,rfl,g1,g2,f1 4 _ rfl,f1 5 _ rfl,f2 4 _ rfl,f2 5 _ rfl,λz hz=>pZ (x1.below hz) (x2.below hz)⟩)
           have Wu:=au (HBQ.o.trans (hz5.mono HBQ.o.size));rw[<-hR]at n1 n2⊢;clear ht5 ht6 hz5 hR;go_wp2;go_loopw [14] (λi wr=>∃(k:Nat),k<=T/\i=an ar k/\ai z5 z5 wr) (λi _=>T-(intOf i).toNat)
           case atStart=>exact⟨0,bz _,rfl,aO _ _⟩
           case round=>
            rename ae=>wt
            obtain⟨k,hk,rfl,hbel⟩:=hrel;by_cases X:k<T
            .obtain⟨b1,o1,b2,o2,s1,m1,k1,s2,m2,k2,dn,rfl,rfl,g1,g2,r1,r2,r3,r4,H⟩:=HH.o wt hbel k X
             have q1:(0:Int)<=(k:Int):=by omega
             have q2:(k:Int)<(T:Int):=by omega
             have q3:(k:Int)<(R:Int):=by omega
             have⟨HB,HS⟩:=aK hbel H;clear H hbel;go_upto_region 28 with fail
             refine cD (by kernel_rfl) (by kernel_rfl) ?_
             repeat (go_big_quiet_step (first|(go_at_call 33;exact cH (HS.o _ (bX _ _)))|fail))
             refine eV ?_;rintro _ ⟨u,rfl⟩;have HX:=au (gR HB.o (aP _) u);go_wp2;go_roundw
             case rel=>exact⟨k+1,by omega,by go_num,HX.o⟩
             case measure=>simp[intOf];omega
            .obtain rfl:k=T:=by omega
             have HE:=au (CA.o wt (Wu.o.trans (hbel.mono Wu.o.size)));clear hbel;go_wp2_with fail
             refine HE.m ?_;rintro e y2 ⟨rfl,hy2⟩;have HE2:=au hy2;clear hy2;go_wp2;exact HE2.o
open Go.ChangeShapes Go.WideShapes Go.ChangeAt
def wI(F:Os)(b:F.Started)(H:Type)(enc:TypeId×ah->H):
 ReturnsInHanded {} Tryz.checked F 8 .any (Rows.topFallenSpec.pre6 enc prog Tryz.f8 Rows.topFallenRow.domain false) (Rows.topFallenSpec.post enc prog Tryz.f8 false true false false):=by
 refine returnsInHanded_of_change (C:=Tryz.checked) CW b (by kernel_rfl) func8
  (ChangeSpec.witness6 (enc:=enc) (C:=Tryz.checked) false ⟨#[],#[aG #[(),(),an ar 0,an ar 0,an ar 0,an ar 0,an ar 0,an ar 0,an ar 0,an ar 0,an ar 0,an ar 0],(),()],[]⟩ 8 (by kernel_rfl) (by kernel_rfl) (by kernel_rfl) (by kernel_rfl)) ?_
 intro W base args Q gs g c G _ _;have a:∀(j:Nat) t v,Tryz.f8.params[j]? =some t->args[j]? =some v->Value.okWide prog W .any base t v:=c
 have i:=G;obtain⟨p,q,sr,T,rfl,_,_⟩:=G;have I:DataW.TrodAll enc prog W 0 (λ_=>true) true Tryz.f8.params.toList args.toList Q p:=sr;rw[Tryz.params8]at I a;obtain⟨J,U,d0,V,X,q0,k,rfl,rfl,K,Y⟩:=trodAll_cons I;obtain⟨l,Z,d1,ds1,p1,q1,rfl,rfl,rfl,L,r1⟩:=trodAll_cons Y;obtain⟨n,vs2,d2,ds2,p2,q2,rfl,rfl,rfl,M,r2⟩:=trodAll_cons r1;obtain⟨rfl,rfl,rfl⟩:=trodAll_nil r2;obtain rfl:args= #[J,l,n]:=by cases args;simp_all
 obtain⟨rfl,rfl⟩:=trodVars_none T;have N:=K;have o:∀x∈X,x.block<W.heap.size:=by obtain⟨m,f⟩:=N;exact DataW.trod_lt m _ _ _ f
 obtain⟨c0,rfl,r,wc0,jc0⟩:=gW (a 0 25 J rfl rfl) K;have O:=L;have s:∀x∈p1,x.block<W.heap.size:=by obtain⟨m,f⟩:=O;exact DataW.trod_lt m _ _ _ f
 have⟨u,w,y⟩:=fN (a 1 26 l rfl rfl) L;have P:=M;have z:∀x∈p2,x.block<W.heap.size:=by obtain⟨m,f⟩:=P;exact DataW.trod_lt m _ _ _ f
 have⟨A,B,E⟩:=fN (a 2 26 n rfl rfl) M;clear sr c;refine(YX c0 l u n A W r w y B E).mono λe W' ⟨he,d⟩=> ?_
 subst he;exact⟨_,rfl,_,_,_,[],_,[],i,trodAll_mk1 (shut_bool underlying4 _),(trodAll_cons_mk (Below.trod kY (by kernel_rfl) (of_decide_eq_true (by kernel_rfl)) N d o) (trodAll_cons_mk (Below.trod kY (by kernel_rfl) (of_decide_eq_true (by kernel_rfl)) O d s) (trodAll_cons_mk (Below.trod kY (by kernel_rfl) (of_decide_eq_true (by kernel_rfl)) P d z) trodAll_mk0))),rfl,d.frame _,λh=>by cases h⟩
theorem SH:Rows.TopFallenSaid:=
 OpenClaim.holds_of_wide 8 Tryz.f8 rfl rfl rfl rfl rfl rfl rfl ⟨rfl,rfl,rfl,rfl,rfl⟩ rfl rfl rfl rfl rfl (by kernel_rfl) func8 x_
  (of_decide_eq_true (by kernel_rfl)) (by unfold Func.isWrapper;rw[aC (of_decide_eq_false (by kernel_rfl))];exact⟨rfl,rfl⟩)
  (λb a H enc _=>wI b a H enc)
end Go.Proofs.YtjpnlfpompnpkaaGreat
