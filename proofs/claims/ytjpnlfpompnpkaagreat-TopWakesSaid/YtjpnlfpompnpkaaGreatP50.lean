/-
  The law TopWakes: for every input it returns true, and its arguments read as they did; under no condition but the row's.
-/
import Derived.Test.YtjpnlfpompnpkaaGreatP25
import Derived.Test.YtjpnlfpompnpkaaGreatP26
import Derived.Test.YtjpnlfpompnpkaaGreatP49
namespace Go.Proofs.YtjpnlfpompnpkaaGreat
open Go.RowKit Go.Proofs.Tryz
open Go.Value renaming int->an,slice->av,bool->aw,string->aA,tuple->aM,pointer->aL,agg->aG
open Go.IntKind renaming i64->ar
open Go.Ending renaming returned->ax
open Go.Obj renaming cells->aB
open Go renaming World->ae,Value->ah,Calls->aj,Ending->ak
open Go.RowKit renaming Below->ai
set_option maxRecDepth 100000
set_option linter.all false
set_option maxHeartbeats 2000000
open Go.ChangeMaps mX
variable{w w' u y z z0:ae}{c:aV}{K:Nat->Prop}{xb:Nat}{L:List cO}
def rC.wup{n:Nat}{x:di}{rs:List cS}(h:rC c xb K x rs n y)(k:Nat)(j:k<x.ws.length):∃bx,aj prog 22 #[xb,an ar ((k+1:Nat):Int)] y λe z=>e=ax (aL (some ⟨bx,0,none⟩))/\ai y y z/\
 aj prog 23 #[aL (some ⟨bx,0,none⟩)] z (λe f=>e=ax (aw (x.ws.getD k ()).up)/\z=f):=by
 obtain⟨⟨g,m,b,rfl,_⟩,_,_⟩:=h;have a:k<m.ws.length:=by have:=b.wl;omega
 refine⟨(m.ws[k]).bx,(vP b k a).mono ?_⟩;rintro e z ⟨rfl,d⟩;have i:=b.fr (P:=λ_=>False) (Fr.eS d _ _) (λ_ e=>e.elim);exact⟨rfl,d,vK (i.ws k a)⟩
def Wg{a b:aY}(h:a.1<b.1):cR a b=true:=by
 unfold cR rL I7 jJ;rw[aI h];rfl
def Wh{d:Int}{a b:er}(h:ltT a b=true):cR (d,⟨a.toArray⟩) (d,⟨b.toArray⟩)=true:=by
 unfold cR rL I7 jJ nX;unfold ltT at h;simpa using h
def Y5(first:Bool)(b:aY)(a:Nat)(d:Int)(s:lu)(w:er):(lu.add first b a d s w).l=s.l∨((lu.add first b a d s w).l=s.l++ [(d,⟨w.toArray⟩)]/\s.l.length≠a):=by
 unfold lu.add;split
 .exact .inl rfl
 split
 .exact .inl rfl
 split
 .exact .inl rfl
 .rename_i h
  exact .inr ⟨rfl,h⟩
def zQ(first:Bool)(b:aY)(a:Nat)(d:Int):∀(ws:List er) (s:lu),s.l.length<=a->∃f:List er,f.Sublist ws/\(ws.foldl (lu.add first b a d) s).l=s.l++f.map (λw=>((d,⟨w.toArray⟩):aY))/\(ws.foldl (lu.add first b a d) s).l.length<=a
 | [],s,h=>⟨[],.slnil,by simp,h⟩
 |w::ws,s,h=>by
  rw[List.foldl_cons];obtain e|⟨e,k⟩:=Y5 first b a d s w
  .have⟨f,g,i,j⟩:=zQ first b a d ws (lu.add first b a d s w) (by rw[e];exact h)
   exact⟨f,g.cons w,by rw[i,e],j⟩
  .have⟨f,g,i,j⟩:=zQ first b a d ws (lu.add first b a d s w) (by rw[e,bF];simp only[cG,dx];omega)
   exact⟨w::f,g.cons_cons w,by rw[i,e];simp,j⟩
def tG(ns:List gO)(q:List Int)(first:Bool)(b:aY)(a:Nat):∀K:Nat,(jr ns q first b a K).l.length<=a
 |0=>bz _
 |K+1=>by
  rw[jr];exact(zQ first b a (K:Int) _ _ (tG ns q first b a K)).choose_spec.2.2
def Fj{ns:List gO}(f:Kf ns)(q:List Int)(first:Bool)(d:aY)(e:Nat):∀K:Nat,(jr ns q first d e K).l.Pairwise λa b=>cR a b=true
 |0=>List.Pairwise.nil
 |K+1=>by
  rw[jr];have⟨g,i,j,_⟩:=zQ first d e (K:Int) (mU ns q (K:Int) 13 0 [] []) _ (tG ns q first d e K)
  have k:xL (A7 ns 13 0 []):=by
   have:=(rR f.good).2.2
   rwa [AS,f.enum]at this
  rw[j,List.pairwise_append];refine⟨Fj f q first d e K,?_,λa m b n=> ?_⟩
  .rw[List.pairwise_map]
   exact(List.Pairwise.sublist (i.trans (Kg ns q (K:Int) 13 0 [] [])) k).imp λh=>Wh h
  .obtain⟨w,_,rfl⟩:=List.mem_map.1 n
   exact Wg (sX f q first d e K m).2.1
def Sw{l:List aY}(h:l.Pairwise λa b=>cR a b=true):kL cR l=true:=by
 rw[j_];intro m d;have:=List.pairwise_iff_getElem.1 h m (m+1) (by omega) d (by omega);simpa[aU,d,show m<l.length by omega]using this
def Sx{o:Option (List gO)}(d:∀ns,o=some ns->Kf ns)(text:ByteArray)(k:Int)(first:Bool)(b:aY)(a:Int):kL cR (fO o text k first b a).1=true/\(fO o text k first b a).1.length<=a.toNat:=by
 unfold fO;cases o with
 |none=>exact⟨rfl,bz _⟩
 |some ns=>
  simp only;split
  .exact⟨Sw (Fj (d ns rfl) _ _ _ _ _),tG _ _ _ _ _ _⟩
  .exact⟨rfl,bz _⟩
def Md(w:gL):VT (oI w):=⟨rfl,λs a b e=>by
 obtain⟨i,_,rfl⟩:=List.mem_map.1 a;exact Ew e⟩
variable{w:gL}
def Me(h:VT w)(s:Int):∀ns,lL w s=some ns->Kf ns:=λns e=>by
 unfold lL at e;split at e
 .rename_i x a
  exact h.gr x (List.mem_of_find?_eq_some a) ns e
 .cases e
def Y6(h:VT w){m:cd}(d:m.may=true):VT (dD w m):=by
 unfold dD;split
 .split
  .rename_i a b e
   split
   .refine⟨?_,h.gr⟩
    unfold cd.may me at d;simp only[List.all_cons,List.all_nil,Bool.and_true,cV]at d;exact d.2.2
   .exact h
  .split
   .exact⟨h.ep,h.gr⟩
   .exact h
  .exact⟨h.ep,h.gr⟩
  .exact h
 .exact h
def Y7(h:VT w):VT (dO w).1:=by
 unfold dO;split
 .split
  .split
   .exact⟨h.ep,h.gr⟩
   .exact h
  .exact h
 .exact h
def Wi(h:VT w)(f:w.up=true)(g:1<=w.id/\w.id<=5)(i:OR w.life=true)(j:∀a∈w.q,nG a=true):∃m:cd,(dO w).2=[⟨0,m⟩]/\m.may=true:=by
 have hid:jb w.id=true:=by simp[jb,g]
 have e:(cd.eu w.id w.life).may=true:=by simp[cd.may,me,hid,i]
 unfold dO;rw[aI f];split
 .split
  .rename_i a q b
   refine⟨_,rfl,?_⟩;have d:=j a (by rw[b];simp);unfold nG me at d;simp only[cV,ei,List.all_cons,List.all_nil,Bool.and_true]at d;obtain⟨_,l,⟨n,o,_⟩,_,u,v,y,z⟩:=d;have⟨p,A⟩:=Sx (Me h a.aR) a.text a.k a.first (a.jk,a.word) a.batch
   show nJ (jz w a)=true
   unfold nJ sO me jz;simp only[cV,ei,List.all_cons,List.all_nil,Bool.and_true,pC];refine⟨⟨λx r=> ?_,p⟩,by omega,l,⟨n,o,h.ep⟩,hid⟩;have⟨s,B,t⟩:=Kq (Me h a.aR) r;simp only[nF,cV,ei];exact⟨⟨s,by omega⟩,t⟩
  .exact⟨_,rfl,e⟩
 .exact⟨_,rfl,e⟩
def acg:E4 (gA c):=λi a=>by
 have a:i<c.workers.toNat:=by simpa[gA]using a
 have:(gA c).ws.getD i ()=qz c ((i:Int)+1):=by simp[gA,aU,a]
 rw[this];exact Md _
def rI(a:Int):∀(l:List fF) (x:di) (r:cS),(dh c x r a l).1.ws=x.ws
 | [],_,_=>rfl
 |y::l,x,r=>by
  have e:dh c x r a (y::l)=dh c (cF c a (x,r) y).1 (cF c a (x,r) y).2 a l:=rfl;rw[e,rI a l];unfold cF;split<;>rfl
def Y8{x:di}(h:E4 x)(e:cO):E4 (bC c x e).1:=by
 unfold bC cM;by_cases e1:e.kind=1
 .rw[aI e1];exact h.same (rI _ _ _ _)
 rw[aC e1];by_cases e2:e.kind=2
 .rw[aI e2];exact h.same (rI _ _ _ _)
 rw[aC e2];by_cases e3:e.kind=3
 .rw[aI e3];exact h.same rfl
 rw[aC e3];by_cases f:e.kind=4
 .rw[aI f]
  split
  .refine E4.same ?_ (rI _ _ _ _)
   unfold gM;split
   .exact h.same rfl
   .unfold di.wk
    split
    .rename_i w a
     split at a
     .obtain rfl:=Option.some.inj a
      exact h.set _ (Y7 (h _ (by omega)))
     .cases a
    .exact h
  .exact h
 rw[aC f];by_cases g:e.kind=5
 .rw[aI g]
  unfold eE;split
  .simp only
   split
   .exact h.same rfl
   .rename_i m d
    have hm:m.may=true:=by
     obtain⟨q,e,_⟩|⟨n,e,hm⟩:=rV (ij x.net e.at').fr
     .rw[e]at d;cases d
     .rw[e]at d;obtain rfl:=Option.some.inj d;exact hm
    split
    .refine E4.same ?_ (rI _ _ _ _)
     unfold fL;split
     .exact h.same rfl
     .exact E4.upd (x:={x with net:=gG x.net e.at'}) h _ _ λw a=>Y6 a hm
    .exact h.same rfl
  .exact h
 rw[aC g];by_cases i:e.kind=6
 .rw[aI i]
  split
  .exact h.same rfl
  .exact h
 rw[aC i];by_cases j:e.kind=7
 .rw[aI j];exact h.same rfl
 rw[aC j];by_cases k:e.kind=8
 .rw[aI k];exact h.same rfl
 rw[aC k];by_cases l:e.kind=9
 .rw[aI l]
  exact h.upd _ _ λw a=>by
   unfold eL;split
   .exact⟨a.ep,a.gr⟩
   .exact a
 rw[aC l];by_cases b:e.kind=10
 .rw[aI b]
  exact h.upd _ _ λw a=>by
   unfold gV;split
   .exact a
   .exact Md w
 rw[aC b];split
 .exact h.upd _ _ λw a=>⟨a.ep,a.gr⟩
 .exact h
def Mf:∀(l:List cO) {x:di},E4 x->E4 (cT c x l).1
 | [],_,h=>h
 |e::l,x,h=>Mf l (Y8 h e)
def ach(es:List cO):E4 (bW c es):=Mf es acg
def Ot{n:Nat}{x:di}(h:f_ c n x)(j:n<=100000)(d:E4 x){e:cO}(f:e.kind=4)(h1:1<=e.node)(h2:e.node<=c.workers):
 (bC c x e).2.sent=if(x.ws.getD (e.node-1).toNat default).up then [(x.next,e.node,0)]else []:=by
 have g:=h.wl;have k:=h.workers;have a:(e.node-1).toNat<x.ws.length:=by omega
 have b:x.wk e.node=some (x.ws.getD (e.node-1).toNat default):=by unfold di.wk;rw[aI (by omega)]
 unfold bC cM;rw[aC (by omega),aC (by omega),aC (by omega),aI f,aI (by omega)];unfold gM;rw[aC (by omega),b];simp only;cases hu:(x.ws.getD (e.node-1).toNat default).up
 .have ev:(dO (x.ws.getD (e.node-1).toNat default)).2=[]:=by unfold dO;rw[aC (by rw[hu];decide)]
  rw[ev];rfl
 .have hid:=h.id _ a
  have i:=h.lf _ a;have⟨m,e1,e2⟩:=Wi (d _ a) hu (by rw[hid];omega) (by simp only[OR,cV,ei];omega) (h.aq _ a);rw[e1]
  show(cF c e.node ({x with ws:=x.ws.set (e.node-1).toNat (dO (x.ws.getD (e.node-1).toNat default)).1},⟨e,0,0,[],-1,[]⟩) ⟨0,m⟩).2.sent=_
  unfold cF;rw[aI e2];rfl
variable{P:Tg->Prop}{τ br:cj}{w:ae}
def aci(c:aV)(v:ah)(es:List cO)(w:ae)(hc:c.rd w)(hes:aT cO.cells 7 w v es)(he:∀e∈es,te e):aj prog 5 #[c.val,v] w λe w'=>e=ax (aw true)/\ai w w w':=by
 have⟨u,hu⟩:=aD (w.alloc (aB c.cells.toArray 25 (0,0)));have⟨hbx,hg,hl2⟩:=aV.box hu;have hgb:=hl2.aJ;have hb0:u.heap[w.heap.size]? =some (aB c.cells.toArray 25 (0,0)):=by rw[hu];exact a_ _ _
 have⟨q,hq⟩:=aD w.heap.size;rw[<-hq]at hb0 hbx;have⟨Er,qH,CN,oM⟩:=c_ (hes.below hgb) (hc.below hgb) he (qe (hc.below hgb) (hes.below hgb) 300 (by decide));have⟨Q,hQ⟩:= @aD (ak->ae->Prop) (λe w'=>e=ax (aw true)/\ai w w w');have K9:=au (show∀y,ai u u y->Q (ax (aw true)) y fromλy G=>by rw[hQ];exact⟨rfl,hgb.trans (G.mono hgb.size)⟩);have uG:=au (show∀y,ai u u y->aj prog 14 #[] y λe z=>e=ax (aw true)/\Q (ax (aw true)) z fromλy G=>(nS y).mono λe z ⟨h1,h2⟩=>⟨h1,K9.o z (G.trans (h2.mono G.size))⟩);rw[<-hQ];have⟨C,hC⟩:=aD c;rw[<-hC]at oM qH;obtain⟨wv,cv,words,cuts,f,r,H,I,aS,J,first,cap,s,net⟩:=c;have th:=au (show∀y,ai u u y->q<y/\y.cell? q=(wv)/\y.cell? ⟨q,1,none⟩=(cv)/\y.cell? ⟨q,2,none⟩=f/\y.cell? ⟨q,3,none⟩=r/\y.cell? ⟨q,4,none⟩=H/\y.cell? ⟨q,5,none⟩=I/\y.cell? ⟨q,6,none⟩=aS/\y.cell? ⟨q,7,none⟩=J/\y.cell? ⟨q,8,none⟩=first/\y.cell? ⟨q,9,none⟩=cap/\y.cell? ⟨q,10,none⟩=s/\y.cell? ⟨q,11,none⟩=net fromλy G=>by
  have x:=(G.block q (az hb0)).trans hb0;exact⟨az x,aF x _ rfl,aF x _ rfl,aF x _ rfl,aF x _ rfl,aF x _ rfl,aF x _ rfl,aF x _ rfl,aF x _ rfl,aF x _ rfl,aF x _ rfl,aF x _ rfl,aF x _ rfl⟩)
 have⟨Dj,vR⟩:=aK (show C.workers=f by rw[hC]) (show C.val=aG #[wv,cv,f,r,H,I,aS,J,first,cap,s,net]by rw[hC];rfl);have hval:aV.val ⟨wv,cv,words,cuts,f,r,H,I,aS,J,first,cap,s,net⟩=aG #[wv,cv,f,r,H,I,aS,J,first,cap,s,net]:=rfl;have⟨HU,HQ⟩:=aK (show u=w.alloc (aB #[wv,cv,f,r,H,I,aS,J,first,cap,s,net] 25 (0,0))from hu) hq;rw[hval];rw[vR.o]at oM;have⟨ql,h0,h1,h2,h3,h4,h5,h6,h7,h8,h9,h10,h11⟩:=th.o u (aO _ _);obtain⟨va,vc,rfl,hn1,hn2,hrd⟩:=hes;unfold maxLen at hn1;have HRE:=au hrd;have⟨N,hN⟩:=aD es.length;have HN:=au hN;rw[<-hN]at hn1 hn2 oM⊢;have⟨HB0,ZH⟩:=aK hb0 hgb;clear hQ hu hbx hl2 hgb hq hval hC hb0 hrd hN hc he;go_in;go_upto_region 1 with fail
 rw[<-HU.o,<-HQ.o];go_wp2_with fail
 refine oM.m ?_;rintro e y0 ⟨b,rfl,K,hbf⟩;have ZI:=au K;obtain rfl|rfl:=Bool.eq_false_or_eq_true b
 .have HA:=au (uG.o y0 K)
  clear hbf K;go_wp2_with fail
  refine HA.m ?_;rintro e y1 ⟨rfl,hy1⟩;have HE:=au hy1;clear hy1;go_wp2;exact HE.o
 .have⟨hok,hle,htx⟩:=hbf rfl
  have hev:=rF htx CN.o;have O0:N<=300:=by omega
  have La:=au (show aT cO.cells 7 y0 (av va N vc) es by
   have:=Er.o.below K;rw[<-HN.o]at this;exact this)
  have CA:=au (show∀y,ai y0 y0 y->aj prog 14 #[] y λe z=>e=ax (aw true)/\Q (ax (aw true)) z fromλy G=>uG.o y (K.trans (G.mono K.size)));have I4:=au (show∀y,ai y0 y0 y->q<y/\y.cell? ⟨q,2,none⟩=f fromλy G=>by
   have⟨a,_,_,b,_⟩:=th.o y (K.trans (G.mono K.size));exact⟨a,b⟩)
  have J_:=au (show∀k,k<es.length->∃b o,va=some ⟨b,o,none⟩/\b<y0.heap.size/\∀j v,(es.getD k ()).cells[j]? =some v->y0.cell? ⟨b,o+k*7+j,none⟩=some v by
   have⟨a',c',e1,_,_,hr2⟩:=La.o;simp only[bG]at e1;obtain⟨rfl,_,_⟩:=e1;exact hr2)
  have E8:=au (tz (c:=C) (hok.below K));rw[vR.o]at E8;have⟨UF,hUF⟩:= @aD (Nat->Int->Bool) (λk l=>((bW C (es.take k)).ws.getD (l-1).toNat default).up);have⟨SI,uO⟩:= @aD (Nat->Nat->ae->Prop) (λA k y=>Cz C A (λb=>b<y0.heap.size) y0 (es.take k) y);have⟨qL,HB0,sB⟩:=aX hev (show∀A k y,SI A k y->ai y0 y0 y fromλA k y hs=>by rw[uO]at hs;exact hs.below (λ_ h=>h) (aP _)) (show∀A k y z,SI A k y->ai y y z->SI A k z fromλA k y z hs x=>by rw[uO]at hs⊢;exact hs.E5 x);have YK:=au (show∀A k y,k<es.length->SI A k y->∀l:Int,1<=l->l<=f->∃bx,aj prog 22 #[aL (some ⟨A,0,none⟩),an ar l] y λe z=>e=ax (aL (some ⟨bx,0,none⟩))/\ai y y z/\
   aj prog 23 #[aL (some ⟨bx,0,none⟩)] z (λe z'=>e=ax (aw (UF k l))/\z=z')fromλA k y hk hs l h1 h2=>by
   rw[uO]at hs;have hw:=hs.ls.ok.wl;rw[Dj.o]at hw;have h3:=hs.ls.wup (l-1).toNat (by omega);rw[show(((l-1).toNat+1:Nat):Int)=l by omega]at h3;rw[hUF];exact h3)
  have HST:=au (show∀A k y y2,(hk:k<es.length)->SI A k y->ai y y y2->∀B l n V U W X,es[k]=⟨B,l,n,V,U,W,X⟩->aj prog 24 #[aL (some ⟨A,0,none⟩),aG #[an ar B,an ar l,an ar n,an ar V,aA U,an ar W,an ar X]] y2 (λe z=>∃(vd id:Int) (sa:Option Addr) (sn sk:Nat) (la:Option Addr) (ln lk:Nat) (L:Int),e=ax (aG #[an ar B,an ar l,an ar n,an ar V,aA U,an ar W,an ar X,vd,id,av sa sn sk,(L:Int),av la ln lk])/\SI A (k+1) z/\(∀b,y.heap.size<=b->b<y2.heap.size->z.heap[b]? =y2.heap[b]?)/\(B=4->1<=l->l<=f->(UF k l=false/\sn=0)∨(UF k l=true/\sn=1/\∃sb so,sa=some ⟨sb,so,none⟩/\sb<z.heap.size/\z.cell? ⟨sb,so+1,none⟩=some (an ar l)/\z.cell? ⟨sb,so+2,none⟩=(0:Int))))fromλA k y y2 hk hs hby B l n V U W X hE=>by
   rw[uO]at hs;have hl:(es.take k).length=k:=by rw[dw];omega
   have hn:=HN.o;have hvl:(es[k]).vl=aG #[an ar B,an ar l,an ar n,an ar V,aA U,an ar W,an ar X]:=by rw[hE];rfl
   have hst:=hs.VP hby (by omega) (es[k]) (qL.o _ (eA hk));rw[hvl]at hst;refine hst.mono ?_;rintro en' z ⟨sa,sn,sk,la,ln,lk,rfl,g1,g2,g3⟩;have hr:=rY (c:=C) (bW C (es.take k)) (es[k]);have hw:=λ(a:(es[k]).kind=4) (b:1<=(es[k]).node) (d:(es[k]).node<=C.workers)=>Ot hs.ls.ok (by omega) (ach (c:=C) (es.take k)) a b d
   refine⟨(bC C (bW C (es.take k)) (es[k])).2.verdict,(bC C (bW C (es.take k)) (es[k])).2.id,sa,sn,sk,la,ln,lk,(bC C (bW C (es.take k)) (es[k])).2.got,?_,?_,g3,λa b d=> ?_⟩
   .show Ending.returned (qC _ _ _ _ _ _ _ _ _ _ _ _)=_
    rw[hr,hE];rfl
   .rw[uO]
    simp only;rw[fG hk];exact g1
   .have h3:=hw (by rw[hE];exact a) (by rw[hE];exact b) (by rw[hE,Dj.o];exact d)
    rw[hE]at h3 g2;simp only at h3;rw[h3]at g2;obtain⟨sa',sk',e1,_,_,hr2⟩:=g2;simp only[bG]at e1;obtain⟨rfl,rfl,rfl⟩:=e1;rw[hUF];simp only;cases hu:((bW C (es.take k)).ws.getD (l-1).toNat default).up
    .exact .inl ⟨rfl,by simp⟩
    .rw[hu]at hr2
     have⟨sb,so,e2,l2,c2⟩:=hr2 0 (by simp);refine .inr ⟨rfl,by simp,sb,so,e2,l2,?_,?_⟩
     .simpa using c2 1 (an ar l) rfl
     .simpa using c2 2 (0:Int) rfl)
  have Ml:=au (show∀A y,rC C A (λb=>b<y0.heap.size) (gA C) [] 0 y->ai y0 y0 y->SI A 0 y fromλA y hl G=>by
   rw[uO];exact⟨hl,Kp.of_below G _,λ_ h=>h⟩)
  have⟨ql,h0,h1,h2,h3,h4,h5,h6,h7,h8,h9,h10,h11⟩:=th.o y0 K;clear hok hle htx hev hbf K uO hUF;go_wp2_with fail
  refine E8.m ?_;rintro e y1 ⟨hy1,⟨hm,rfl⟩|⟨hm,A,rfl,hl⟩⟩
  .have HE:=au (CA.o y1 hy1)
   clear h0 h1 h2 h3 h4 h5 h6 h7 h8 h9 h10 h11 ql hy1 hm;go_wp2_with fail
   refine HE.m ?_;rintro e y2 ⟨rfl,hy2⟩;have HE2:=au hy2;clear hy2;go_wp2;exact HE2.o
  .have⟨Pu,HON,HOF⟩:=aX (Ml.o A y1 hl hy1) (show∀w:ae,aj prog 25 #[aw true] w λe w'=>e=ax (1:Int)/\w=w' fromλw=>NZ true w) (show∀w:ae,aj prog 25 #[aw false] w λe w'=>e=ax (0:Int)/\w=w' fromλw=>NZ false w)
   clear hl hy1 hm h0 h1 h2 h3 h4 h5 h6 h7 h8 h9 h10 h11 ql;go_wp2;go_loopw [6] (λi wr=>∃(k:Nat),k<=N/\i=an ar k/\SI A k wr) (λi _=>N-(intOf i).toNat)
   case atStart=>exact⟨0,bz _,rfl,Pu.o⟩
   case round=>
    obtain⟨k,hk,rfl,hsi⟩:=hrel;by_cases hlt:k<N
    .have hkl:k<es.length:=by rw[<-HN.o];exact hlt
     obtain⟨b,o,rfl,x,T⟩:=J_.o k hkl;have hgd:es.getD k ()=es[k]:=by simp[aU,hkl]
     rw[hgd]at T;have htx:=(qL.o _ (eA hkl)).2;have⟨Z,hw1⟩:=aD (wr.alloc (aB (es[k]).cells.toArray 33 (0,0)));have hb1:ai wr wr Z:=by rw[hw1];exact(aO _ _).alloc (aP _) _
     have hbx:Z.heap[wr.heap.size]? =some (aB (es[k]).cells.toArray 33 (0,0)):=by rw[hw1];exact a_ _ _
     have hs1:=sB.o _ _ _ _ hsi hb1;have hst:=λz (hz:ai Z Z z)=>HST.o A k wr z hkl hsi (hb1.trans (hz.mono hb1.size))
     have hwk:=YK.o A k Z hkl hs1;have⟨E,hE⟩:=aD (es[k]);rw[<-hE]at T htx hst hw1 hbx;obtain⟨B,l,n,V,U,W,X⟩:=E;simp only at htx;obtain⟨bl,p0,p1,p2,p3,p4,p5,p6⟩:b<wr.heap.size/\wr.cell? ⟨b,o+k*7,none⟩=some (an ar B)/\wr.cell? ⟨b,o+k*7+1,none⟩=some (an ar l)/\wr.cell? ⟨b,o+k*7+2,none⟩=some (an ar n)/\wr.cell? ⟨b,o+k*7+3,none⟩=some (an ar V)/\wr.cell? ⟨b,o+k*7+4,none⟩=some (aA U)/\wr.cell? ⟨b,o+k*7+5,none⟩=some (an ar W)/\wr.cell? ⟨b,o+k*7+6,none⟩=some (an ar X):=by
      have G:=HB0.o _ _ _ hsi;exact⟨bP x G.size,by simpa using(G.cell (p:=⟨b,o+k*7+0,none⟩) x).trans (T 0 (an ar B) rfl),(G.cell (p:=⟨b,o+k*7+1,none⟩) x).trans (T 1 (an ar l) rfl),(G.cell (p:=⟨b,o+k*7+2,none⟩) x).trans (T 2 (an ar n) rfl),(G.cell (p:=⟨b,o+k*7+3,none⟩) x).trans (T 3 (an ar V) rfl),(G.cell (p:=⟨b,o+k*7+4,none⟩) x).trans (T 4 (aA U) rfl),(G.cell (p:=⟨b,o+k*7+5,none⟩) x).trans (T 5 (an ar W) rfl),(G.cell (p:=⟨b,o+k*7+6,none⟩) x).trans (T 6 (an ar X) rfl)⟩
     have htx:U.size<=maxLen:=bD htx (by decide);have LG:=au (λz hz=>hst z hz B l n V U W X rfl);have q1:(0:Int)<=(k:Int):=by omega
     have q2:(k:Int)<(N:Int):=by omega
     have⟨g,hg⟩:=aD wr.heap.size;have⟨HG,SD⟩:=aK hg hg;rw[<-hg]at hbx;have⟨HW1,F,alm,Ml⟩:=c_ (show Z=wr.alloc (aB #[an ar B,an ar l,an ar n,an ar V,aA U,an ar W,an ar X] 33 (0,0))from hw1) (show Z.heap[g]? =some (aB #[an ar B,an ar l,an ar n,an ar V,aA U,an ar W,an ar X] 33 (0,0))from hbx) hwk hs1;clear T hgd hE x hsi hkl hst hwk hw1 hbx hs1 hb1 hg;go_upto_region 10 with fail
     rw[<-HW1.o,<-HG.o];clear p0 p1 p2 p3 p4 p5 p6 bl;have gl:=az F.o;have⟨ql,hq2⟩:=I4.o Z (HB0.o _ _ _ Ml.o);have⟨g0,g1⟩:=dk F.o;have HEB:=au (show∀y,ai Z Z y->g<y/\y.heap[g]? =some (aB #[an ar B,an ar l,an ar n,an ar V,aA U,an ar W,an ar X] 33 (0,0))fromλy G=>by
      have:=(G.block g (az F.o)).trans F.o;exact⟨az this,this⟩)
     by_cases c4:B=4/\1<=l/\l<=f
     .obtain⟨d1,d2,d3⟩:=c4
      have⟨bx,hbw⟩:=alm.o l d2 d3;have HWC:=au hbw;have FU:=au (λz hz=>(LG.o z hz).mono λe y h=>(by
       obtain⟨vd,id,sa,sn,sk,la,ln,lk,L,h1,h2,h4,h3⟩:=h;exact⟨vd,id,sa,sn,sk,la,ln,lk,L,h1,h2,λb x=>h4 b (by rw[<-SD.o];exact x),h3 d1 d2 d3⟩:∃(vd id:Int) (sa:Option Addr) (sn sk:Nat) (la:Option Addr) (ln lk:Nat) (L:Int),e=ax (aG #[an ar B,an ar l,an ar n,an ar V,aA U,an ar W,an ar X,vd,id,av sa sn sk,(L:Int),av la ln lk])/\SI A (k+1) y/\(∀b,g<=b->b<z.heap.size->y.heap[b]? =z.heap[b]?)/\((UF k l=false/\sn=0)∨(UF k l=true/\sn=1/\∃sb so,sa=some ⟨sb,so,none⟩/\sb<y.heap.size/\y.cell? ⟨sb,so+1,none⟩=some (an ar l)/\y.cell? ⟨sb,so+2,none⟩=(0:Int)))))
      have b4:(B==4)=true:=by simp[d1]
      clear d1 hbw;go_wp2_with fail
      refine HWC.m ?_;rintro e w2 ⟨rfl,hw2,hup⟩;have⟨HUP,HB2⟩:=aK hup hw2;clear hup hw2;go_wp2_with fail
      refine aH HUP.o ?_;have⟨gl2,t⟩:=HEB.o w2 HB2.o;obtain⟨c0,c1,c2,c3,cc4,c5,c6⟩:w2.cell? g=some (an ar B)/\w2.cell? ⟨g,1,none⟩=some (an ar l)/\w2.cell? ⟨g,2,none⟩=some (an ar n)/\w2.cell? ⟨g,3,none⟩=some (an ar V)/\w2.cell? ⟨g,4,none⟩=some (aA U)/\w2.cell? ⟨g,5,none⟩=some (an ar W)/\w2.cell? ⟨g,6,none⟩=some (an ar X):=⟨aF t _ rfl,aF t _ rfl,aF t _ rfl,aF t _ rfl,aF t _ rfl,aF t _ rfl,aF t _ rfl⟩;clear g0 g1 gl hq2 ql;go_wp2_with fail
      refine(FU.o w2 HB2.o).mono ?_;rintro e z ⟨vd,id,sa,sn,sk,la,ln,lk,L,rfl,hz,M,hcase⟩;have M:=(M g (aP _) gl2).trans t;clear t;have⟨z2,Y⟩:=aD (z.alloc (aB #[an ar B,an ar l,an ar n,an ar V,aA U,an ar W,an ar X,vd,id,av sa sn sk,(L:Int),av la ln lk] 45 (0,0)));have⟨F4,Pa⟩:=aK (show z2.heap[z.heap.size]? =some (aB #[an ar B,an ar l,an ar n,an ar V,aA U,an ar W,an ar X,vd,id,av sa sn sk,(L:Int),av la ln lk] 45 (0,0))by rw[Y];exact a_ _ _) (show ai z z z2 by rw[Y];exact(aO _ _).alloc (aP _) _);have⟨HZS,HZ2⟩:=aK (sB.o _ _ _ _ hz Pa.o) Y;have O:=(Pa.o.block g (az M)).trans M;have gl3:=az O;have m1:=aF O 1 rfl;have zl:=az F4.o;clear Y hz O M c0 c1 c2 c3 cc4 c5 c6;go_upto_region 13 with fail
      rw[<-HZ2.o];obtain⟨hu,rfl⟩|⟨hu,rfl,sb,so,rfl,sl,s1,s2⟩:=hcase
      .have d9:=aF F4.o 9 rfl
       rw[hu];clear hu;go_quiet ((go_at_call 25;exact de (HOF.o _)));have HX:=au (sB.o _ _ _ _ HZS.o (bo z2 nq).aJ);go_wp2;go_roundw
       case rel=>exact⟨k+1,by omega,by go_num,HX.o⟩
       case measure=>simp[intOf];omega
      .have d9:=aF F4.o 9 rfl
       have e1:=(Pa.o.cell (p:=⟨sb,so+1,none⟩) sl).trans s1;have e2:=(Pa.o.cell (p:=⟨sb,so+2,none⟩) sl).trans s2;have sl2:=bP sl Pa.o.size;rw[hu];clear hu s1 s2 sl;go_quiet ((go_at_call 25;exact de (HON.o _)));have HX:=au (sB.o _ _ _ _ HZS.o (bo z2 nq).aJ);go_wp2;go_roundw
       case rel=>exact⟨k+1,by omega,by go_num,HX.o⟩
       case measure=>simp[intOf];omega
     .have hb4:(B==4)=false∨((B==4)=true/\¬1<=l)∨((B==4)=true/\1<=l/\¬l<=f):=by
       by_cases e1:B=4
       .by_cases e2:1<=l
        .exact .inr (.inr ⟨by simp[e1],e2,λe3=>c4 ⟨e1,e2,e3⟩⟩)
        .exact .inr (.inl ⟨by simp[e1],e2⟩)
       .exact .inl (by simp[e1])
      obtain⟨c0,c1,c2,c3,cc4,c5,c6⟩:Z.cell? g=some (an ar B)/\Z.cell? ⟨g,1,none⟩=some (an ar l)/\Z.cell? ⟨g,2,none⟩=some (an ar n)/\Z.cell? ⟨g,3,none⟩=some (an ar V)/\Z.cell? ⟨g,4,none⟩=some (aA U)/\Z.cell? ⟨g,5,none⟩=some (an ar W)/\Z.cell? ⟨g,6,none⟩=some (an ar X):=⟨aF F.o _ rfl,aF F.o _ rfl,aF F.o _ rfl,aF F.o _ rfl,aF F.o _ rfl,aF F.o _ rfl,aF F.o _ rfl⟩;clear c4 g0 g1;obtain b4|⟨b4,b5⟩|⟨b4,b5,b6⟩:=hb4
      all_goals
       go_wp2_with fail
       refine(LG.o Z (aO _ _)).mono ?_;rintro e z ⟨vd,id,sa,sn,sk,la,ln,lk,L,rfl,hz,M,_⟩;have M:=(M g (Nat.le_of_eq SD.o.symm) gl).trans F.o;have⟨z2,Y⟩:=aD (z.alloc (aB #[an ar B,an ar l,an ar n,an ar V,aA U,an ar W,an ar X,vd,id,av sa sn sk,(L:Int),av la ln lk] 45 (0,0)));have⟨F4,Pa⟩:=aK (show z2.heap[z.heap.size]? =some (aB #[an ar B,an ar l,an ar n,an ar V,aA U,an ar W,an ar X,vd,id,av sa sn sk,(L:Int),av la ln lk] 45 (0,0))by rw[Y];exact a_ _ _) (show ai z z z2 by rw[Y];exact(aO _ _).alloc (aP _) _);have⟨HZS,HZ2⟩:=aK (sB.o _ _ _ _ hz Pa.o) Y;have O:=(Pa.o.block g (az M)).trans M;have gl3:=az O;have m1:=aF O 1 rfl;have zl:=az F4.o;clear Y hz O M c0 c1 c2 c3 cc4 c5 c6;go_upto_region 13 with fail
       rw[<-HZ2.o];go_region
       have HX:=au (sB.o _ _ _ _ HZS.o (aO _ _).drew);go_wp2;go_roundw
       case rel=>exact⟨k+1,by omega,by go_num,HX.o⟩
       case measure=>simp[intOf];omega
    .obtain rfl:k=N:=by omega
     have HE:=au (CA.o wr (HB0.o _ _ _ hsi));clear hsi;go_wp2_with fail
     refine HE.m ?_;rintro e y2 ⟨rfl,hy2⟩;have HE2:=au hy2;clear hy2;go_wp2;exact HE2.o
open Go.ChangeShapes Go.WideShapes Go.ChangeAt
def zr(y:Os)(a:y.Started)(H:Type)(enc:TypeId×ah->H):
 ReturnsInHanded {} Tryz.checked y 5 .any (Rows.topWakesSpec.pre6 enc prog Tryz.f5 Rows.topWakesRow.domain false) (Rows.topWakesSpec.post enc prog Tryz.f5 false true false false):=by
 refine returnsInHanded_of_change (C:=Tryz.checked) IB a (by kernel_rfl) func5
  (ChangeSpec.witness6 (enc:=enc) (C:=Tryz.checked) false ⟨#[],#[aG #[(),(),an ar 0,an ar 0,an ar 0,an ar 0,an ar 0,an ar 0,an ar 0,an ar 0,an ar 0,an ar 0],()],[]⟩ 8 (by kernel_rfl) (by kernel_rfl) (by kernel_rfl) (by kernel_rfl)) ?_
 intro W base args J gs f b z _ _;have c:∀(j:Nat) t v,Tryz.f5.params[j]? =some t->args[j]? =some v->Value.okWide prog W .any base t v:=b
 have g:=z;obtain⟨p,q,sr,K,rfl,_,_⟩:=z;have A:DataW.TrodAll enc prog W 0 (λ_=>true) true Tryz.f5.params.toList args.toList J p:=sr;rw[Tryz.params5]at A c;obtain⟨B,L,d0,M,N,q0,i,rfl,rfl,E,O⟩:=trodAll_cons A;obtain⟨k,P,d1,Q,T,q1,rfl,rfl,rfl,F,U⟩:=trodAll_cons O;obtain⟨rfl,rfl,rfl⟩:=trodAll_nil U;obtain rfl:args= #[B,k]:=by cases args;simp_all
 obtain⟨rfl,rfl⟩:=trodVars_none K;have G:=E;have l:∀x∈N,x.block<W.heap.size:=by obtain⟨m,n⟩:=G;exact DataW.trod_lt m _ _ _ n
 obtain⟨V,rfl,o,X,Y⟩:=gW (c 0 25 B rfl rfl) E;have I:=F;have r:∀x∈T,x.block<W.heap.size:=by obtain⟨m,n⟩:=I;exact DataW.trod_lt m _ _ _ n
 have⟨s,u,w⟩:=fN (c 1 26 k rfl rfl) F;clear sr b;refine(aci V k s W o u w).mono λe W' ⟨Z,d⟩=> ?_
 subst Z;exact⟨_,rfl,_,_,_,[],_,[],g,trodAll_mk1 (shut_bool underlying4 _),(trodAll_cons_mk (Below.trod oL (by kernel_rfl) (of_decide_eq_true (by kernel_rfl)) G d l) (trodAll_cons_mk (Below.trod oL (by kernel_rfl) (of_decide_eq_true (by kernel_rfl)) I d r) trodAll_mk0)),rfl,d.frame _,λh=>by cases h⟩
theorem Wj:Rows.TopWakesSaid:=
 OpenClaim.holds_of_wide 5 Tryz.f5 rfl rfl rfl rfl rfl rfl rfl ⟨rfl,rfl,rfl,rfl,rfl⟩ rfl rfl rfl rfl rfl (by kernel_rfl) func5 Cq
  (of_decide_eq_true (by kernel_rfl)) (by unfold Func.isWrapper;rw[aC (of_decide_eq_false (by kernel_rfl))];exact⟨rfl,rfl⟩)
  (λb a H enc _=>zr b a H enc)
end Go.Proofs.YtjpnlfpompnpkaaGreat
