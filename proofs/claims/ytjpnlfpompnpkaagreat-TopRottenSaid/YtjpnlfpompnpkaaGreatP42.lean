/-
  The law TopRotten: for every input it returns true, and its arguments read as they did; under no condition but the row's.
-/
import Derived.Test.YtjpnlfpompnpkaaGreatP25
import Derived.Test.YtjpnlfpompnpkaaGreatP29
import Derived.Test.YtjpnlfpompnpkaaGreatP41
namespace Go.Proofs.YtjpnlfpompnpkaaGreat
open Go.RowKit Go.Proofs.Tryz
open Go.Value renaming int->an,slice->av,bool->aw,string->aA,tuple->aM,pointer->aL,agg->aG
open Go.IntKind renaming i64->ar
open Go.Ending renaming returned->ax
open Go.Obj renaming cells->aB
open Go renaming World->ae,Value->ah,Calls->aj,Ending->ak
open Go.RowKit renaming Below->ai
set_option maxRecDepth 100000
set_option linter.all false
set_option maxHeartbeats 2000000
open Go.ChangeMaps mX
variable{P:Tg->Prop}{τ br:cj}{w w' y z:ae}{c:aV}
def Lq{v:ah}{es:List cO}(L:aT cO.cells 7 w v es)(hl:es.length<=4000)(f g:Int):
 aj prog 20 #[v,f,g] w λe w'=>∃v',e=ax v'/\iS w w' v' (bp es f g)/\ai w w w':=by
 obtain⟨va,vc,rfl,A,M,B⟩:=L;unfold maxLen at A;have⟨N,K⟩:=aD es.length;have⟨O,HN⟩:=aK B K;have⟨Q,T⟩:= @aD (ak->ae->Prop) (λe w'=>∃v',e=ax v'/\iS w w' v' (bp es f g)/\ai w w w');have HF:=au (show∀v' y,iS w y v' (bp (es.take N) f g)->ai w w y->Q (ax v') y fromλv' y h1 U=>by
  rw[T];rw[K,fR]at h1;exact⟨v',rfl,h1,U⟩)
 rw[<-T];rw[<-K]at A M hl⊢;clear T B K;go_in;go_wp2;go_loopw [7,8] (λv i wr=>∃k:Nat,k<=N/\i=an ar k/\iS w wr v (bp (es.take k) f g)/\ai w w wr) (λ_ i _=>N-(intOf i).toNat)
 case atStart=>exact⟨0,bz _,rfl,by rw[List.take_zero];exact iS.nil _ _,aO _ _⟩
 case round=>
  obtain⟨k,hk,rfl,h,a⟩:=hrel;by_cases V:k<N
  .have m:k<es.length:=by rw[<-HN.o];exact V
   obtain⟨b,o,rfl,r,d⟩:=O.o k m;have C:es.getD k ()=es[k]:=by simp[aU,m]
   rw[C]at d;have n:=au (show bp (es.take (k+1)) f g=_ by rw[fG m,sE]);have W:(bp (es.take k) f g).length<=4000:=by
    have:=List.length_filter_le (λe:cO=> !decide (e.kind=f)&& !decide (e.kind=g)) (es.take k);have U:(es.take k).length<=4000:=by rw[dw];omega
    exact bD this U
   obtain⟨v',w2,j,⟨a1,n1,k1,rfl⟩,l,F⟩:=h.push [es[k]] (by simp;omega) a.size (by simp);have⟨E,hE⟩:=aD (es[k]);rw[<-hE]at d n j l;obtain⟨q,X,t,Y,Z,ek,en⟩:=E;have p0:=(a.cell (p:=⟨b,o+k*7+0,none⟩) r).trans (d 0 q rfl);have p1:=(a.cell (p:=⟨b,o+k*7+1,none⟩) r).trans (d 1 X rfl);have p2:=(a.cell (p:=⟨b,o+k*7+2,none⟩) r).trans (d 2 t rfl);have p3:=(a.cell (p:=⟨b,o+k*7+3,none⟩) r).trans (d 3 Y rfl);have p4:=(a.cell (p:=⟨b,o+k*7+4,none⟩) r).trans (d 4 (aA Z) rfl);have p5:=(a.cell (p:=⟨b,o+k*7+5,none⟩) r).trans (d 5 ek rfl);have p6:=(a.cell (p:=⟨b,o+k*7+6,none⟩) r).trans (d 6 en rfl);simp only[bM]at p0;have G:=au (show∀ty,(Builtin.append_ #[26,26] ty #[u7,av (some ⟨wr,0,none⟩) 1 1]).run prog (wr.alloc (aB #[q,X,t,Y,aA Z,ek,en] 33 (0,0)))=.ok (av a1 n1 k1) w2 from j);have g1:(0:Int)<=(k:Int):=by omega
   have g2:(k:Int)<(N:Int):=by omega
   have⟨H,I,HB,HB2⟩:=c_ h l a (a.trans F);clear d C W hE r j h l a F m;by_cases u:q=f
   .have s:bp (es.take (k+1)) f g=bp (es.take k) f g:=by rw[n.o];simp[u]
    have J:=au s;have c1:(q !=f)=false:=by simp[u]
    clear s u;go_wp2;go_roundw
    case rel=>exact⟨k+1,by omega,by go_num,by rw[J.o];exact H.o,HB.o⟩
    case measure=>simp[intOf];omega
   .have c1:(q !=f)=true:=by simp[u]
    by_cases x:q=g
    .have s:bp (es.take (k+1)) f g=bp (es.take k) f g:=by rw[n.o];simp[x]
     have J:=au s;have c2:(q !=g)=false:=by simp[x]
     clear s u x;go_wp2;go_roundw
     case rel=>exact⟨k+1,by omega,by go_num,by rw[J.o];exact H.o,HB.o⟩
     case measure=>simp[intOf];omega
    .have c2:(q !=g)=true:=by simp[x]
     have s:bp (es.take (k+1)) f g=bp (es.take k) f g++ [⟨q,X,t,Y,Z,ek,en⟩]:=by rw[n.o];simp[u,x]
     have J:=au s;clear s u x;go_wp2_with (refine cE (by rfl) (.tmp 31) (.tmp 36) 26 (by rfl) _ _ _ w2 (by rfl) (by rfl) (G.o _) ?_);go_roundw
     case rel=>exact⟨k+1,by omega,by go_num,by rw[J.o];exact I.o,HB2.o⟩
     case measure=>simp[intOf];omega
  .obtain rfl:k=N:=by omega
   have HE:=au (HF.o _ _ h a);clear h a;go_wp2;exact HE.o
def gQ(w:gL):gL:={w with cN:=[]}
def fk(x:di):di:={x with ws:=x.ws.map gQ}
def Oe(l:List gL)(k:Nat)(a:k<l.length):(l.map gQ).getD k ()=gQ (l.getD k ()):=by simp[aU,a]
def Y2(l:List gL)(k:Nat)(a:k<l.length):l.getD k ()=l[k]:=by simp[aU,a]
def Hg(x:di)(i:Int):(fk x).wk i=(x.wk i).map gQ:=by
 unfold di.wk fk;simp only[cr];split
 .rename_i h
  rw[Oe _ _ (by omega)];rfl
 .rfl
def Lr(x:di)(i:Int)(w:gL):fk (x.set i w)=(fk x).set i (gQ w):=by
 unfold fk di.set;simp only[List.map_set]
def Cb(x:di)(i:Int)(f g:gL->gL)(a:∀w,gQ (f w)=g (gQ w)):fk (x.upd i f)=(fk x).upd i g:=by
 unfold di.upd;rw[Hg];cases x.wk i with
 |none=>rfl
 |some w=>simp only[Option.map_some];rw[Lr,a]
def Sj(x:di)(i:Int)(f:gL->gL)(d:∀w,gQ (f w)=gQ w):fk (x.upd i f)=fk x:=by
 unfold di.upd di.wk;split
 .rename_i w a
  split at a
  .rename_i h
   obtain rfl:=Option.some.inj a;have b:(i-1).toNat<x.ws.length:=by omega
   unfold di.set fk;simp only[List.map_set,d];have e:gQ (x.ws.getD (i-1).toNat default)=(x.ws.map gQ)[(i-1).toNat]'(by simpa using b):=by rw[Y2 _ _ b,List.getElem_map]
   rw[e,List.set_getElem_self]
  .cases a
 .rfl
def px(a:Int):∀(l:List fF) (x:di) (r:cS),dh c (fk x) r a l=(fk (dh c x r a l).1,(dh c x r a l).2)
 | [],x,r=>rfl
 |y::l,x,r=>by
  have e:∀x r,dh c x r a (y::l)=dh c (cF c a (x,r) y).1 (cF c a (x,r) y).2 a l:=λ_ _=>rfl
  have b:cF c a (fk x,r) y=(fk (cF c a (x,r) y).1,(cF c a (x,r) y).2):=by
   unfold cF;split<;>rfl
  rw[e,e,b];exact px a l _ _
def Of(w:gL)(m:cd):gQ (dD w m)=dD (gQ w) m:=by
 obtain⟨id,d,life,h,f,g,q⟩:=w;cases h
 .rfl
 .cases m with
  |grant a l e=>
   show gQ (if a=id/\l=life/\d<e then _ else _)=if a=id/\l=life/\d<e then _ else _
   split<;>rfl
  |ask a=>
   show gQ (if nG a=true/\a.aW=d/\0<a.aW/\(lL ⟨id,d,life,true,f,g,q⟩ a.aR).isSome=true then _ else _)=if nG a=true/\a.aW=d/\0<a.aW/\(lL ⟨id,d,life,true,f,g,q⟩ a.aR).isSome=true then _ else _
   split<;>rfl
  |stop s q=>rfl
  |eu a b=>rfl
  |dj r=>rfl
def Og(w:gL):dO (gQ w)=(gQ (dO w).1,(dO w).2):=by
 obtain⟨id,b,life,d,e,f,q⟩:=w;cases d
 .rfl
 .cases q with
  |nil=>
   show(if 0<b then _ else _)=(gQ (if 0<b then _ else _:gL×List fF).1,(if 0<b then _ else _:gL×List fF).2)
   split<;>rfl
  |cons a q=>
   show(if 0<b then _ else _)=(gQ (if 0<b then _ else _:gL×List fF).1,(if 0<b then _ else _:gL×List fF).2)
   split<;>rfl
def Ls(w:gL):gQ (eL w)=eL (gQ w):=by
 unfold eL
 show gQ (if w.up=true then _ else _)=if w.up=true then _ else _
 cases w.up<;>rfl
def Sk(x:di)(d:Int)(m:cd):fL c (fk x) d m=(fk (fL c x d m).1,(fL c x d m).2):=by
 unfold fL;split
 .rfl
 .simp only
  rw[Cb x d (λw=>dD w m) (λw=>dD w m) (λw=>Of w m)]
def Oh(x:di)(d:Int):lM (fk x) d=lM x d:=by
 unfold lM;rw[Hg];split
 .rfl
 .cases x.wk d<;>rfl
def Hh(x:di)(r:cS)(i:Int):eE c (fk x) r i=(fk (eE c x r i).1,(eE c x r i).2):=by
 have h1:(fk x).net=x.net:=rfl;unfold eE;rw[h1];split
 .simp only
  have h2:({fk x with net:=gG x.net i}:di)=fk {x with net:=gG x.net i}:=rfl;rw[h2];split
  .rfl
  .rw[Oh]
   split
   .rw[Sk]
    exact px _ _ _ _
   .rfl
 .rfl
def Sl(x:di)(nd a:Int):gM c (fk x) nd a=(fk (gM c x nd a).1,(gM c x nd a).2):=by
 unfold gM;split
 .rfl
 .rw[Hg]
  cases x.wk nd with
  |none=>rfl
  |some w=>
   simp only[Option.map_some];rw[Og,Lr]
def Ff(x:di)(e:cO)(m:e.kind≠10):bC c (fk x) e=(fk (bC c x e).1,(bC c x e).2):=by
 have hl:(fk x).ws.length=x.ws.length:=by simp[fk]
 unfold bC cM;by_cases e1:e.kind=1
 .simp only[aI e1];exact px (c:=c) 0 _ {x with co:=(dq c x.co e.text e.k e.n).1} _
 simp only[aC e1];by_cases e2:e.kind=2
 .simp only[aI e2];exact px (c:=c) 0 _ {x with co:=(cX c x.co e.at').1} _
 simp only[aC e2];by_cases e3:e.kind=3
 .simp only[aI e3];rfl
 simp only[aC e3];by_cases b:e.kind=4
 .simp only[aI b,hl]
  by_cases d:0<=e.node/\e.node<=x.ws.length
  .simp only[aI d]
   rw[Sl];exact px _ _ _ _
  .simp only[aC d]
 simp only[aC b];by_cases f:e.kind=5
 .simp only[aI f];exact Hh _ _ _
 simp only[aC f];by_cases g:e.kind=6
 .simp only[aI g]
  show(if qm x.net.length e.at'=true then _ else _)=_
  by_cases h:qm x.net.length e.at'=true
  .simp only[aI h];rfl
  .simp only[aC h]
 simp only[aC g];by_cases i:e.kind=7
 .simp only[aI i];rfl
 simp only[aC i];by_cases j:e.kind=8
 .simp only[aI j];rfl
 simp only[aC j];by_cases l:e.kind=9
 .simp only[aI l];rw[Cb x e.node eL eL Ls]
 simp only[aC l,aC m];by_cases a:e.kind=11∨e.kind=12
 .simp only[aI a];rw[Cb x e.node (gH e) (gH e) (λw=>rfl)]
 .simp only[aC a]
def Sm(x:di)(e:cO)(a:e.kind=11∨e.kind=12):fk (bC c x e).1=fk x:=by
 have h:(bC c x e).1=x.upd e.node (gH e):=by
  unfold bC cM;rw[aC (by omega),aC (by omega),aC (by omega),aC (by omega),aC (by omega),aC (by omega),aC (by omega),aC (by omega),aC (by omega),aC (by omega),aI a]
 rw[h];exact Sj x e.node (gH e) (λw=>rfl)
def wL:∀(es:List cO) (x y:di),(∀e∈es,e.kind≠10)->fk x=fk y->fk (cT c x es).1=fk (cT c y (bp es 11 12)).1
 | [],x,y,_,h=>h
 |e::es,x,y,f,h=>by
  have b:=f e (by simp);have g:=λz (k:z∈es)=>f z (du _ k)
  show fk (cT c (bC c x e).1 es).1=_
  by_cases a:e.kind=11∨e.kind=12
  .have d:bp (e::es) 11 12=bp es 11 12:=by
    unfold bp;rw[List.filter_cons_of_neg];rcases a with a|a<;>simp[a]
   rw[d];exact wL es _ _ g ((Sm x e a).trans h)
  .have d:bp (e::es) 11 12=e::bp es 11 12:=by
    unfold bp;rw[List.filter_cons_of_pos];simp only[not_or]at a;simp[a.1,a.2]
   rw[d]
   show _=fk (cT c (bC c y e).1 (bp es 11 12)).1
   refine wL es _ _ g ?_;have i:=Ff (c:=c) x e b;have j:=Ff (c:=c) y e b;rw[h]at i;rw[i]at j;exact(congrArg Prod.fst j)
def Wa(es:List cO):(bW c (bp es 10 10)).co.told=(bW c (bp (bp es 10 10) 11 12)).co.told:=by
 have h:∀e∈bp es 10 10,e.kind≠10:=λe a=>by
  have:=(List.mem_filter.1 a).2;simpa using this
 have:=wL (c:=c) (bp es 10 10) (gA c) (gA c) h rfl;exact(congrArg (λx:di=>x.co.told) this:(fk (bW c (bp es 10 10))).co.told=(fk (bW c (bp (bp es 10 10) 11 12))).co.told)
def rH{es:List cO}{k o:Int}{x:cO}(h:x∈bp es k o):x∈es:=(List.mem_filter.1 h).1
def xG(es:List cO)(k o:Int):(bp es k o).length<=es.length:=List.length_filter_le _ _
def Wb(c:aV)(es:List cO):mB c (bp (bp es 10 10) 11 12)=mB c (bp es 10 10):=by
 unfold mB;split
 .exact(Wa es).symm
 .rfl
def Y3(c:aV)(v:ah)(es:List cO)(w:ae)(hc:c.rd w)(M:aT cO.cells 7 w v es)(he:∀e∈es,te e):aj prog 4 #[c.val,v] w λe w'=>e=ax (aw true)/\ai w w w':=by
 have⟨u,hu⟩:=aD (w.alloc (aB c.cells.toArray 25 (0,0)));have⟨hbx,hg,hl2⟩:=aV.box hu;have p:=hl2.aJ;have F:u.heap[w.heap.size]? =some (aB c.cells.toArray 25 (0,0)):=by rw[hu];exact a_ _ _
 have⟨q,hq⟩:=aD w.heap.size;rw[<-hq]at F hbx;have⟨Er,qH,CN,G⟩:=c_ (M.below p) (hc.below p) he (qe (hc.below p) (M.below p) 300 (by decide));have⟨Q,hQ⟩:= @aD (ak->ae->Prop) (λe w'=>e=ax (aw true)/\ai w w w');have K9:=au (show∀y,ai u u y->Q (ax (aw true)) y fromλy x=>by rw[hQ];exact⟨rfl,p.trans (x.mono p.size)⟩);have uG:=au (show∀y,ai u u y->aj prog 14 #[] y λe z=>e=ax (aw true)/\Q (ax (aw true)) z fromλy x=>(nS y).mono λe z ⟨O,h2⟩=>⟨O,K9.o z (x.trans (h2.mono x.size))⟩);rw[<-hQ];have⟨C,hC⟩:=aD c;rw[<-hC]at G qH;obtain⟨wv,cv,T,cuts,d,f,h,i,aS,j,first,s,g,net⟩:=c;have A:=au (show∀y,ai u u y->q<y/\y.cell? q=(wv)/\y.cell? ⟨q,1,none⟩=(cv)/\y.cell? ⟨q,2,none⟩=d/\y.cell? ⟨q,3,none⟩=f/\y.cell? ⟨q,4,none⟩=h/\y.cell? ⟨q,5,none⟩=i/\y.cell? ⟨q,6,none⟩=aS/\y.cell? ⟨q,7,none⟩=j/\y.cell? ⟨q,8,none⟩=first/\y.cell? ⟨q,9,none⟩=s/\y.cell? ⟨q,10,none⟩=g/\y.cell? ⟨q,11,none⟩=net fromλy x=>by
  have t:=(x.block q (az F)).trans F;exact⟨az t,aF t _ rfl,aF t _ rfl,aF t _ rfl,aF t _ rfl,aF t _ rfl,aF t _ rfl,aF t _ rfl,aF t _ rfl,aF t _ rfl,aF t _ rfl,aF t _ rfl,aF t _ rfl⟩)
 have vR:=au (show C.val=aG #[wv,cv,d,f,h,i,aS,j,first,s,g,net]by rw[hC];rfl);have K:aV.val ⟨wv,cv,T,cuts,d,f,h,i,aS,j,first,s,g,net⟩=aG #[wv,cv,d,f,h,i,aS,j,first,s,g,net]:=rfl;have⟨HU,HQ⟩:=aK (show u=w.alloc (aB #[wv,cv,d,f,h,i,aS,j,first,s,g,net] 25 (0,0))from hu) hq;rw[K];rw[vR.o]at G;have⟨ql,h0,O,h2,h3,h4,h5,h6,h7,h8,h9,h10,h11⟩:=A.o u (aO _ _);obtain⟨va,vc,rfl,hn1,hn2,hrd⟩:=M;unfold maxLen at hn1;have⟨N,hN⟩:=aD es.length;have HN:=au hN;rw[<-hN]at hn1 hn2 G⊢;clear hQ hu hbx hl2 p hq K hC F hrd hN hc he;go_in;go_upto_region 1 with fail
 rw[<-HU.o,<-HQ.o];go_wp2_with fail
 refine G.m ?_;rintro e y0 ⟨b,rfl,H,U⟩;have ZI:=au H;obtain rfl|rfl:=Bool.eq_false_or_eq_true b
 .have HA:=au (uG.o y0 H)
  clear U H;go_wp2_with fail
  refine HA.m ?_;rintro e y1 ⟨rfl,B⟩;have HE:=au B;clear B;go_wp2;exact HE.o
 .have⟨V,hle,htx⟩:=U rfl
  have W:=rF htx CN.o;have O0:es.length<=300:=by have:=HN.o;omega
  have hw1:=xG es 10 10;have hw2:=xG (bp es 10 10) 11 12;have HW1:=au (show aj prog 20 #[av va N vc,an ar 10,an ar 10] y0 λe y=>∃r,e=ax r/\iS y0 y r (bp es 10 10)/\ai y0 y0 y by
   have:=Lq ((Er.o).below H) (by omega) 10 10;rw[<-HN.o]at this;exact this)
  have HR1:=au (show∀y r,ai u u y->aT cO.cells 7 y r (bp es 10 10)->aj prog 17 #[C.val,r] y λe z=>∃E L,e=ax (aM #[E,L,an ar (Bm C)])/\eM y z E (mB C (bp es 10 10))/\ai y y z fromλy r x hv=>by
   refine(NU C (bp es 10 10) r y (V.below x) hv (by omega) (λe he=>W e (rH he))).mono ?_;rintro e z ⟨E,L,n,rfl,hp,hz⟩;obtain⟨rfl,O,_⟩:=hp.all;exact⟨E,L,rfl,O,hz⟩)
  have HR2:=au (show∀y r,ai u u y->aT cO.cells 7 y r (bp (bp es 10 10) 11 12)->aj prog 17 #[C.val,r] y λe z=>∃E L,e=ax (aM #[E,L,an ar (Bm C)])/\eM y z E (mB C (bp es 10 10))/\ai y y z fromλy r x hv=>by
   refine(NU C (bp (bp es 10 10) 11 12) r y (V.below x) hv (by omega) (λe he=>W e (rH (rH he)))).mono ?_;rintro e z ⟨E,L,n,rfl,hp,hz⟩;obtain⟨rfl,O,_⟩:=hp.all;rw[Wb]at O;exact⟨E,L,rfl,O,hz⟩)
  rw[vR.o]at HR1 HR2;clear V hle htx W U hw2;go_wp2_with fail
  refine HW1.m ?_;rintro e y1 ⟨v1,rfl,X,B⟩;have I:=ZI.o.trans (B.mono ZI.o.size);have⟨HRC,HA1,HU1⟩:=aX (HR1.o y1 v1 I X.rd) X I;have⟨ql1,k0,k1,k2,k3,k4,k5,k6,k7,k8,k9,k10,k11⟩:=A.o y1 I;clear X B I;go_wp2_with fail
  refine HRC.m ?_;rintro e y2 ⟨E,L,rfl,ht,Y⟩;have Z:=HU1.o.trans (Y.mono HU1.o.size);have ha2:=(HA1.o).below Y;have⟨HW2,HT,l⟩:=aX (show∀y,ai y2 y2 y->aj prog 20 #[v1,an ar 11,an ar 12] y λe z=>∃r,e=ax r/\iS y z r (bp (bp es 10 10) 11 12)/\ai y y z fromλy x=>Lq ((ha2.below x).rd) (by omega) 11 12) ht Z;have hud:=Z.drew;have⟨K0,HD⟩:=aK (A.o y2.drew hud) (show ai y2 y2 y2.drew from(aO _ _).drew);obtain⟨qa,qn,qk,rfl⟩:∃a n k,v1=av a n k:=by
   have⟨a,k,e,_⟩:=ha2.rd;exact⟨a,_,k,e⟩
  obtain⟨ta,tn,tk,rfl⟩:∃a n k,E=av a n k:=by
   have⟨a,k,e,_⟩:=ht.len;exact⟨a,_,k,e⟩
  clear Z ha2 ht Y k0 k1 k2 k3 k4 k5 k6 k7 k8 k9 k10 k11 ql1 hud hw1;go_upto_region 5 with fail
  go_region_held3 (λy=>q<y/\y.cell? q=(wv)/\y.cell? ⟨q,1,none⟩=(cv)/\y.cell? ⟨q,2,none⟩=d/\y.cell? ⟨q,3,none⟩=f/\y.cell? ⟨q,4,none⟩=h/\y.cell? ⟨q,5,none⟩=i/\y.cell? ⟨q,6,none⟩=aS/\y.cell? ⟨q,7,none⟩=j/\y.cell? ⟨q,8,none⟩=first/\y.cell? ⟨q,9,none⟩=s/\y.cell? ⟨q,10,none⟩=g/\y.cell? ⟨q,11,none⟩=net) (first|(with_reducible exact K0.o)|(with_reducible exact K1.o)|(with_reducible exact K2.o)) (first
   |(go_at_call 20;refine(HW2.o _ HD.o).mono ?_;rintro e y3 ⟨v3,rfl,ha3,hy3⟩;have HA3:=au ha3;have J:=au (HD.o.trans (hy3.mono HD.o.size));have K1:=au (A.o y3 (l.o.trans (J.o.mono l.o.size)));clear ha3 hy3)
   |(go_at_call 17;refine(HR2.o _ _ (l.o.trans (J.o.mono l.o.size)) HA3.o.rd).mono ?_;rintro e y4 ⟨tv4,rv4,rfl,ht4,hy4⟩;have HT4:=au ht4;have HD4:=au (J.o.trans (hy4.mono J.o.size));have K2:=au (A.o y4 (l.o.trans (HD4.o.mono l.o.size)));clear ht4 hy4))
  all_goals
   have⟨HST,HU4⟩:=aK (tA (HT.o.below HD4.o) HT4.o) (l.o.trans (HD4.o.mono l.o.size));generalize Bm C=nn at*;go_wp2_with fail
   refine HST.m ?_;rintro e y5 ⟨rfl,Ez⟩;have HA5:=au (uG.o y5 (HU4.o.trans (Ez.mono HU4.o.size)));clear Ez;go_wp2_with fail
   refine HA5.m ?_;rintro e y6 ⟨rfl,hy6⟩;have HE:=au hy6;clear hy6;go_wp2;exact HE.o
open Go.ChangeShapes Go.WideShapes Go.ChangeAt
def wM(y:Os)(a:y.Started)(H:Type)(enc:TypeId×ah->H):
 ReturnsInHanded {} Tryz.checked y 4 .any (Rows.topRottenSpec.pre6 enc prog Tryz.f4 Rows.topRottenRow.domain false) (Rows.topRottenSpec.post enc prog Tryz.f4 false true false false):=by
 refine returnsInHanded_of_change (C:=Tryz.checked) Dv a (by kernel_rfl) func4
  (ChangeSpec.witness6 (enc:=enc) (C:=Tryz.checked) false ⟨#[],#[aG #[(),(),an ar 0,an ar 0,an ar 0,an ar 0,an ar 0,an ar 0,an ar 0,an ar 0,an ar 0,an ar 0],()],[]⟩ 8 (by kernel_rfl) (by kernel_rfl) (by kernel_rfl) (by kernel_rfl)) ?_
 intro W base args J gs f b z _ _;have c:∀(j:Nat) t v,Tryz.f4.params[j]? =some t->args[j]? =some v->Value.okWide prog W .any base t v:=b
 have g:=z;obtain⟨p,q,sr,K,rfl,_,_⟩:=z;have A:DataW.TrodAll enc prog W 0 (λ_=>true) true Tryz.f4.params.toList args.toList J p:=sr;rw[Tryz.params4]at A c;obtain⟨B,L,d0,M,N,q0,i,rfl,rfl,E,O⟩:=trodAll_cons A;obtain⟨k,P,d1,Q,T,q1,rfl,rfl,rfl,F,U⟩:=trodAll_cons O;obtain⟨rfl,rfl,rfl⟩:=trodAll_nil U;obtain rfl:args= #[B,k]:=by cases args;simp_all
 obtain⟨rfl,rfl⟩:=trodVars_none K;have G:=E;have l:∀x∈N,x.block<W.heap.size:=by obtain⟨m,n⟩:=G;exact DataW.trod_lt m _ _ _ n
 obtain⟨V,rfl,o,X,Y⟩:=gW (c 0 25 B rfl rfl) E;have I:=F;have r:∀x∈T,x.block<W.heap.size:=by obtain⟨m,n⟩:=I;exact DataW.trod_lt m _ _ _ n
 have⟨s,u,w⟩:=fN (c 1 26 k rfl rfl) F;clear sr b;refine(Y3 V k s W o u w).mono λe W' ⟨Z,d⟩=> ?_
 subst Z;exact⟨_,rfl,_,_,_,[],_,[],g,trodAll_mk1 (shut_bool underlying4 _),(trodAll_cons_mk (Below.trod nW (by kernel_rfl) (of_decide_eq_true (by kernel_rfl)) G d l) (trodAll_cons_mk (Below.trod nW (by kernel_rfl) (of_decide_eq_true (by kernel_rfl)) I d r) trodAll_mk0)),rfl,d.frame _,λh=>by cases h⟩
theorem SL:Rows.TopRottenSaid:=
 OpenClaim.holds_of_wide 4 Tryz.f4 rfl rfl rfl rfl rfl rfl rfl ⟨rfl,rfl,rfl,rfl,rfl⟩ rfl rfl rfl rfl rfl (by kernel_rfl) func4 yJ
  (of_decide_eq_true (by kernel_rfl)) (by unfold Func.isWrapper;rw[aC (of_decide_eq_false (by kernel_rfl))];exact⟨rfl,rfl⟩)
  (λb a H enc _=>wM b a H enc)
end Go.Proofs.YtjpnlfpompnpkaaGreat
