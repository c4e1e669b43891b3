/-
  The law TopStops: for every input it returns true, and its arguments read as they did; under no condition but the row's.
-/
import Derived.Test.YtjpnlfpompnpkaaGreatP28
import Derived.Test.YtjpnlfpompnpkaaGreatP45
namespace Go.Proofs.YtjpnlfpompnpkaaGreat
open Go.RowKit Go.Proofs.Tryz
open Go.Value renaming int->an,slice->av,bool->aw,string->aA,tuple->aM,pointer->aL,agg->aG
open Go.IntKind renaming i64->ar
open Go.Ending renaming returned->ax
open Go.Obj renaming cells->aB
open Go renaming World->ae,Value->ah,Calls->aj,Ending->ak
open Go.RowKit renaming Below->ai
set_option maxRecDepth 100000
set_option linter.all false
set_option maxHeartbeats 2000000
open mX
variable{c:aV}{B:Int}{x:cB}
def eU(l:List bZ):Int:=(l.length:Int)-(fh l:Int)
def sG(c:aV)(y:ej):List fF:=(List.range c.workers.toNat).map λw:Nat=>⟨(w:Int)+1,.stop y.slot y.id⟩
def Sp(x:cB)(id:Int)(f:bZ->bZ)(a:(id-1).toNat<x.told.length)(b:∀t,(f t).live=t.live):eU (x.tell id f).told=eU x.told:=by
 have h:=po x.told (id-1).toNat (f (x.told.getD (id-1).toNat default)) a;rw[b]at h;unfold eU
 show((x.told.set _ _).length:Int)-(fh (x.told.set _ _):Int)=_
 rw[ds];omega
def Fg(x:cB)(id:Int)(f:bZ->bZ)(a:(id-1).toNat<x.told.length)(b:(x.told.getD (id-1).toNat default).live=true)(d:∀t,(f t).live=false):eU (x.tell id f).told=eU x.told+1:=by
 have h:=po x.told (id-1).toNat (f (x.told.getD (id-1).toNat default)) a;rw[d,b]at h;unfold eU
 show((x.told.set _ _).length:Int)-(fh (x.told.set _ _):Int)=_
 rw[ds];simp only[if_true,oA,if_false]at h;omega
def Fh(x:cB)(y:ej)(a:(y.id-1).toNat<x.told.length)(b:(x.told.getD (y.id-1).toNat default).live=true):
 eU (eG c x y).1.told=eU x.told∨(eU (eG c x y).1.told=eU x.told+1/\(eG c x y).2=sG c y):=by
 have f:eU (Re x y).told=eU x.told:=Sp (x.put (Rd y)) y.id _ a λ_=>rfl
 rw[zK];split
 .refine .inr ⟨?_,rfl⟩
  rw[pr];have d:((Re x y).told.getD (y.id-1).toNat default).live=true:=by
   show((x.told.set _ _).getD _ _).live=true
   rw[kW _ _ _ _ a,aI rfl];exact b
  have e:(y.id-1).toNat<(Re x y).told.length:=by
   show _<(x.told.set _ _).length
   rw[ds];exact a
  rw[Fg (Re x y) y.id Rf e d (λt=>by unfold Rf bZ.live;simp),f]
 .exact .inl f
def LW(h:jf x)(a:cI c B x)(id:Int):eU (cX c x id).1.told=eU x.told∨(eU (cX c x id).1.told=eU x.told+1/\∃y∈x.qs,(cX c x id).2=sG c y):=by
 unfold cX;split
 .exact .inl rfl
 .rename_i y e
  have⟨b,f⟩:=VU e;have⟨d,g,i⟩:=a.idx b;rw[f]at d g i;refine .inr ⟨?_,y,b,rfl⟩;rw[pr];exact Fg x id _ d ((h.op _ d).2 ⟨y,b,by omega⟩) λt=>by simp[bZ.live]
def Ol(h:jf x)(a:cI c B x)(r:lr):eU (eX c x r).1.told=eU x.told∨(eU (eX c x r).1.told=eU x.told+1/\∃y∈x.qs,(eX c x r).2=sG c y):=by
 unfold eX;split
 .exact .inl rfl
 .split
  .exact .inl rfl
  .rename_i y e
   have⟨h1,_⟩:=VU e;split
   .exact .inl rfl
   .split
    .exact .inl rfl
    .rename_i ss _
     have⟨d,f,g⟩:=a.idx h1;have b:(x.told.getD (y.id-1).toNat default).live=true:=(h.op _ d).2 ⟨y,h1,by omega⟩;rcases Fh (c:=c) {x with L:=kB c.workers c.aS x.L r.worker r.aW x.now,T:=(dE (x.T,x.tn) (bY y.slot r.aR)).1,tn:=(dE (x.T,x.tn) (bY y.slot r.aR)).2} {y with ss:=ss} d b with k|⟨k,l⟩
     .exact .inl k
     .exact .inr ⟨k,y,h1,l⟩
def Om(h:jf x)(a:cI c B x)(m:cd):eU (dU c x m).1.told=eU x.told∨(eU (dU c x m).1.told=eU x.told+1/\∃y∈x.qs,(dU c x m).2=sG c y):=by
 unfold dU;split
 .exact .inl rfl
 .exact Ol h a _
 .exact .inl rfl
def LX(h:jf x)(a:cI c B x)(text:ByteArray)(k n:Int):eU (dq c x text k n).1.told=eU x.told∨(eU (dq c x text k n).1.told=eU x.told+1/\∃y,iH c (B+1) (qI c x text k n) y/\cI c (B+1) (qI c x text k n)/\(dq c x text k n).2.2=sG c y):=by
 by_cases b:(jD (ie text k n) x.who x.last).1=3
 .rw[iJ b]
  have⟨g,i,_⟩:=nP b;have⟨j,m⟩:=F2 a g i;have o:=a.tl;have e:(qI c x text k n).told=x.told++ [⟨x.last+1,text,k,n,[],false,false⟩]:=rfl;have d:((lD c (x.last+1) (cK x.who) text k n).id-1).toNat=x.told.length:=by
   show(x.last+1-1).toNat=_
   omega
  have f:eU (qI c x text k n).told=eU x.told:=by
   rw[e];unfold eU fh;rw[List.countP_append,bF];have: [(⟨x.last+1,text,k,n,[],false,false⟩:bZ)].countP bZ.live=1:=rfl;rw[this];simp only[cG,dx];omega
  obtain k|⟨k,l⟩:=Fh (c:=c) (qI c x text k n) (lD c (x.last+1) (cK x.who) text k n) (by rw[d,e];simp) (by rw[d,e];simp[aU];rfl)
  .exact .inl (by rw[k,f])
  .exact .inr ⟨by rw[k,f],_,m,j,l⟩
 .rw[iO b]
  exact .inl rfl
def LY(a:Int):∀(l:List fF) (x:di) (r:cS),(∀y∈l,y.m.may=true)->(dh c x r a l).2.sent.map (λt=>(t.2.1,t.2.2))=r.sent.map (λt=>(t.2.1,t.2.2))++l.map λy=>(a,y.dst)
 | [],x,r,_=>by simp[dh]
 |y::l,x,r,h=>by
  have e:dh c x r a (y::l)=dh c (cF c a (x,r) y).1 (cF c a (x,r) y).2 a l:=rfl;rw[e,LY a l _ _ λz b=>h z (by simp[b])];have d:(cF c a (x,r) y).2.sent=r.sent++ [(x.next,a,y.dst)]:=by
   unfold cF;rw[aI (h y (by simp))]
  rw[d];simp
def Sq(a:cI c B x)(e:B<=2000000000){y:ej}(d:iH c B x y):∀l∈sG c y,l.m.may=true:=λl b=>by
 have⟨f,g,h,i⟩:=d.slot a.sl;have j:=a.four;have k:=a.lb;unfold sG at b;obtain⟨w,_,rfl⟩:=List.mem_map.1 b;simp only[cd.may,kh,me,OR,List.all_cons,List.all_nil,Bool.and_true,cV,ei];omega
def Sr(c:aV)(y:ej){w:Int}(a:1<=w)(b:w<=c.workers):((sG c y).map λz=>((0:Int),z.dst)).countP (λt=>decide (t=(0,w)))=1:=by
 unfold sG;rw[fT,List.countP_map];have e:((λt:Int×Int=>decide (t=(0,w)))∘(λz:fF=>((0:Int),z.dst))∘λv:Nat=>(⟨(v:Int)+1,.stop y.slot y.id⟩:fF))=λv:Nat=>v==(w-1).toNat:=by
  funext v;simp only[Function.comp];rw[Bool.eq_iff_iff];simp;omega
 rw[e];exact(List.Nodup.count List.nodup_range).trans (aI (by rw[List.mem_range];omega))
def qj{x:di}{z:cB}(a:cI c B z)(b:B<=2000000000){y:ej}(d:iH c B z y)(r:cS)(e:r.sent=[]){w:Int}(f:1<=w)(g:w<=c.workers):
 ((dh c x r 0 (sG c y)).2.sent.map λt=>(t.2.1,t.2.2)).countP (λt=>decide (t=(0,w)))=1:=by
 rw[LY 0 _ x r (Sq a b d),e];exact Sr c y f g
def Ss{n:Nat}{x:di}(h:f_ c n x)(C:n<=5000)(e:cO):eU (bC c x e).1.co.told=eU x.co.told∨(eU (bC c x e).1.co.told=eU x.co.told+1/\
 ∀w:Int,1<=w->w<=c.workers->(((bC c x e).2.sent.map λt=>(t.2.1,t.2.2)).countP λt=>decide (t=(0,w)))=1):=by
 have a:∀y:cB,y.told=x.co.told->eU y.told=eU x.co.told:=λy e=>by rw[e]
 unfold bC cM;by_cases i:e.kind=1
 .rw[aI i]
  simp only;rw[(eF 0 _ _ _).1];obtain k|⟨k,y,b,z,l⟩:=LX h.td h.co e.text e.k e.n
  .exact .inl k
  .refine .inr ⟨k,λw d f=> ?_⟩
   rw[l];exact qj z (by omega) b _ rfl d f
 rw[aC i];by_cases j:e.kind=2
 .rw[aI j,(eF 0 _ _ _).1]
  obtain k|⟨k,y,b,l⟩:=LW h.td h.co e.at'
  .exact .inl k
  .refine .inr ⟨k,λw d f=> ?_⟩
   rw[l];exact qj h.co (by omega) (h.co.qy y b) _ rfl d f
 rw[aC j];by_cases o:e.kind=3
 .rw[aI o]
  exact .inl (a _ rfl)
 rw[aC o];by_cases p:e.kind=4
 .rw[aI p]
  split
  .rw[(eF _ _ _ _).1]
   refine .inl (a _ ?_);unfold gM;split
   .exact oy _ _ _
   .split<;>rfl
  .exact .inl (a _ rfl)
 rw[aC p];by_cases q:e.kind=5
 .rw[aI q]
  unfold eE;split
  .simp only
   split
   .exact .inl (a _ rfl)
   .split
    .rw[(eF _ _ _ _).1]
     unfold fL;split
     .rename_i m _ _ A
      obtain k|⟨k,y,b,l⟩:=Om h.td h.co m
      .exact .inl k
      .refine .inr ⟨k,λw d f=> ?_⟩
       simp only;rw[l,A];split
       .exact qj h.co (by omega) (h.co.qy y b) _ rfl d f
       .exact qj h.co (by omega) (h.co.qy y b) _ rfl d f
     .refine .inl (a _ ?_)
      show(di.upd _ _ _).co.told=_
      rw[ja]
    .exact .inl (a _ rfl)
  .exact .inl (a _ rfl)
 rw[aC q];by_cases r:e.kind=6
 .rw[aI r]
  split<;>exact .inl (a _ rfl)
 rw[aC r];by_cases s:e.kind=7
 .rw[aI s]
  exact .inl (a _ rfl)
 rw[aC s];by_cases u:e.kind=8
 .rw[aI u]
  exact .inl (a _ rfl)
 rw[aC u];by_cases v:e.kind=9
 .rw[aI v]
  exact .inl (a _ (by rw[ja]))
 rw[aC v];by_cases g:e.kind=10
 .rw[aI g]
  exact .inl (a _ (by rw[ja]))
 rw[aC g];split
 .exact .inl (a _ (by rw[ja]))
 .exact .inl (a _ rfl)
open Go.ChangeMaps
variable{P:Tg->Prop}{τ br:cj}{w w' y z:ae}
def Y4(S:List (Int×Int×Int))(j w:Nat):0<=rE S j w/\rE S j w<=j:=by
 unfold rE;have h:((S.take j).map λt=>(t.2.1,t.2.2)).countP (λt=>decide (t=((0:Int),(w:Int))))<=j:=bD List.countP_le_length (by rw[cr,dw];omega);omega
def We(F:Nat->Int){T:Nat}(a:T<=5):(Bn F)[T]? =some (F T:Int):=by
 have:T=0∨T=1∨T=2∨T=3∨T=4∨T=5:=by omega
 rcases this with rfl|rfl|rfl|rfl|rfl|rfl<;>rfl
variable{S:List (Int×Int×Int)}
def VS.get{a y:ae}{tb j T:Nat}(h:VS a tb S j y)(b:T<=5):tb<y/\y.cell? ⟨tb,T,none⟩=(rE S j T:Int)/\y.frozen? ⟨tb,T,none⟩=false:=by
 refine⟨az h.1,?_,bB h.1 _⟩;simp only[World.cell?,h.1];exact We _ b
def VS.skip{b y:ae}{tb j:Nat}(h:VS b tb S j y)(d:j<S.length)(f:¬((S.getD j ()).2.1=0/\0<=(S.getD j ()).2.2/\(S.getD j ()).2.2<=5)):VS b tb S (j+1) y:=by
 refine⟨h.1.trans ?_,h.2⟩;have a:∀w:Nat,w<=5->rE S (j+1) w=rE S j w:=λw g=>by
  rw[vS d,aC (λe=>f (by simp only[Prod.mk.injEq]at e;omega))];omega
 unfold Bn;rw[a 0 (by decide),a 1 (by decide),a 2 (by decide),a 3 (by decide),a 4 (by decide),a 5 (by decide)]
def acf(c:aV)(v:ah)(es:List cO)(w:ae)(hc:c.rd w)(hes:aT cO.cells 7 w v es)(he:∀e∈es,te e):aj prog 9 #[c.val,v] w λe w'=>e=ax (aw true)/\ai w w w':=by
 have⟨u,hu⟩:=aD (w.alloc (aB c.cells.toArray 25 (0,0)));have⟨hbx,hg,hl2⟩:=aV.box hu;have V:=hl2.aJ;have hb0:u.heap[w.heap.size]? =some (aB c.cells.toArray 25 (0,0)):=by rw[hu];exact a_ _ _
 have⟨q,hq⟩:=aD w.heap.size;rw[<-hq]at hb0 hbx;have⟨Er,qH,CN,oM⟩:=c_ (hes.below V) (hc.below V) he (qe (hc.below V) (hes.below V) 300 (by decide));have⟨Q,hQ⟩:= @aD (ak->ae->Prop) (λe w'=>e=ax (aw true)/\ai w w w');have K9:=au (show∀y,ai u u y->Q (ax (aw true)) y fromλy G=>by rw[hQ];exact⟨rfl,V.trans (G.mono V.size)⟩);have uG:=au (show∀y,ai u u y->aj prog 14 #[] y λe z=>e=ax (aw true)/\Q (ax (aw true)) z fromλy G=>(nS y).mono λe z ⟨K,h2⟩=>⟨K,K9.o z (G.trans (h2.mono G.size))⟩);rw[<-hQ];have⟨C,hC⟩:=aD c;rw[<-hC]at oM qH;obtain⟨wv,cv,words,cuts,d,g,s,x,aS,A,first,X,r,net⟩:=c;have th:=au (show∀y,ai u u y->q<y/\y.cell? q=(wv)/\y.cell? ⟨q,1,none⟩=(cv)/\y.cell? ⟨q,2,none⟩=d/\y.cell? ⟨q,3,none⟩=g/\y.cell? ⟨q,4,none⟩=s/\y.cell? ⟨q,5,none⟩=x/\y.cell? ⟨q,6,none⟩=aS/\y.cell? ⟨q,7,none⟩=A/\y.cell? ⟨q,8,none⟩=first/\y.cell? ⟨q,9,none⟩=X/\y.cell? ⟨q,10,none⟩=r/\y.cell? ⟨q,11,none⟩=net fromλy G=>by
  have B:=(G.block q (az hb0)).trans hb0;exact⟨az B,aF B _ rfl,aF B _ rfl,aF B _ rfl,aF B _ rfl,aF B _ rfl,aF B _ rfl,aF B _ rfl,aF B _ rfl,aF B _ rfl,aF B _ rfl,aF B _ rfl,aF B _ rfl⟩)
 have⟨Dj,vR⟩:=aK (show C.workers=d by rw[hC]) (show C.val=aG #[wv,cv,d,g,s,x,aS,A,first,X,r,net]by rw[hC];rfl);have hval:aV.val ⟨wv,cv,words,cuts,d,g,s,x,aS,A,first,X,r,net⟩=aG #[wv,cv,d,g,s,x,aS,A,first,X,r,net]:=rfl;have⟨HU,HQ⟩:=aK (show u=w.alloc (aB #[wv,cv,d,g,s,x,aS,A,first,X,r,net] 25 (0,0))from hu) hq;rw[hval];rw[vR.o]at oM;have⟨ql,h0,K,h2,h3,h4,h5,h6,h7,h8,h9,h10,h11⟩:=th.o u (aO _ _);obtain⟨va,vc,rfl,hn1,hn2,hrd⟩:=hes;unfold maxLen at hn1;have HRE:=au hrd;have⟨N,hN⟩:=aD es.length;have HN:=au hN;rw[<-hN]at hn1 hn2 oM⊢;have⟨HB0,ZH⟩:=aK hb0 V;clear hQ hu hbx hl2 V hq hval hC hb0 hrd hN hc he;go_in;go_upto_region 1 with fail
 rw[<-HU.o,<-HQ.o];go_wp2_with fail
 refine oM.m ?_;rintro e W ⟨b,rfl,H,hbf⟩;have ZI:=au H;obtain rfl|rfl:=Bool.eq_false_or_eq_true b
 .have HA:=au (uG.o W H)
  clear hbf H;go_wp2_with fail
  refine HA.m ?_;rintro e y1 ⟨rfl,Y⟩;have HE:=au Y;clear Y;go_wp2;exact HE.o
 .have⟨hok,hle,htx⟩:=hbf rfl
  have hev:=rF htx CN.o;have O0:N<=300:=by omega
  have La:=au (show aT cO.cells 7 W (av va N vc) es by
   have:=Er.o.below H;rw[<-HN.o]at this;exact this)
  have⟨CA,I4⟩:=aK (show∀y,ai W W y->aj prog 14 #[] y λe z=>e=ax (aw true)/\Q (ax (aw true)) z fromλy G=>uG.o y (H.trans (G.mono H.size))) (show∀y,ai W W y->q<y/\y.cell? q=(wv)/\y.cell? ⟨q,1,none⟩=(cv)/\y.cell? ⟨q,2,none⟩=d/\y.cell? ⟨q,3,none⟩=g/\y.cell? ⟨q,4,none⟩=s/\y.cell? ⟨q,5,none⟩=x/\y.cell? ⟨q,6,none⟩=aS/\y.cell? ⟨q,7,none⟩=A/\y.cell? ⟨q,8,none⟩=first/\y.cell? ⟨q,9,none⟩=X/\y.cell? ⟨q,10,none⟩=r/\y.cell? ⟨q,11,none⟩=net fromλy G=>th.o y (H.trans (G.mono H.size)));have J_:=au (show∀k,k<es.length->∃b o,va=some ⟨b,o,none⟩/\b<W.heap.size/\∀j v,(es.getD k ()).cells[j]? =some v->W.cell? ⟨b,o+k*7+j,none⟩=some v by
   have⟨a',c',e1,_,_,hr2⟩:=La.o;simp only[bG]at e1;obtain⟨rfl,_,_⟩:=e1;exact hr2)
  have E8:=au (tz (c:=C) (hok.below H));rw[vR.o]at E8;have⟨Z,hLS⟩:= @aD (Nat->Int) (λk=>eU (bW C (es.take k)).co.told);have⟨SI,uO⟩:= @aD (Nat->Nat->ae->Prop) (λxb k y=>rC C xb (λb=>b<W.heap.size) (bW C (es.take k)) (iQ C (es.take k)) k y/\ai W W y);have⟨D7,FM,qL⟩:=aX uO hLS hev;have⟨ql,h0,K,h2,h3,h4,h5,h6,h7,h8,h9,h10,h11⟩:=th.o W H;clear hok hle htx hev hbf H hLS uO;go_wp2_with fail
  refine E8.m ?_;rintro e y1 ⟨Y,⟨hm,rfl⟩|⟨hm,xb,rfl,hl⟩⟩
  .have HE:=au (CA.o y1 Y)
   clear h0 K h2 h3 h4 h5 h6 h7 h8 h9 h10 h11 ql Y hm;go_wp2_with fail
   refine HE.m ?_;rintro e y2 ⟨rfl,hy2⟩;have HE2:=au hy2;clear hy2;go_wp2;exact HE2.o
  .have⟨Pu,HL0,HM⟩:=aX (show SI xb 0 y1 by rw[D7.o];exact⟨hl,Y⟩) (show Z 0=0 by rw[FM.o];rfl) hm
   have Jt:=au (show∀k y,k<=N->SI xb k y->∃cb,aj prog 29 #[xb] y (λe z=>e=ax (aL (some ⟨cb,0,none⟩))/\y=z)/\
    aj prog 30 #[aL (some ⟨cb,0,none⟩)] y (λe z=>∃(a:Option Addr) (n m U:Nat),e=ax (av a n m)/\(n:Int)-(U:Int)=Z k/\(U:Int)<=(n:Int)/\(n:Int)<=1000000/\SI xb k z/\ai y y z/\aj prog 28 #[av a n m] z λe z'=>e=ax (U:Int)/\z=z')fromλk y hk hs=>by
    rw[D7.o]at hs;obtain⟨K,h2⟩:=hs;have⟨cb,k1,k2,_⟩:=K.co (by omega);refine⟨cb,k1,k2.mono ?_⟩;rintro e z ⟨v,rfl,k3,k4⟩;obtain⟨a,m,rfl,_⟩:=k3.len;have t1:=K.ok.co.tl;have t2:=K.ok.co.lb;have t3:fh (bW C (es.take k)).co.told<=(bW C (es.take k)).co.told.length:=List.countP_le_length;refine⟨a,_,m,fh (bW C (es.take k)).co.told,rfl,by rw[FM.o];rfl,by omega,by omega,?_,k4,Gj k3⟩;rw[D7.o];exact⟨K.E5 h2.size k4,h2.trans (k4.mono h2.size)⟩)
   have sB:=au (show∀k y z,SI xb k y->ai y y z->SI xb k z fromλk y z hs B=>by
    rw[D7.o]at hs⊢;exact⟨hs.1.E5 hs.2.size B,hs.2.trans (B.mono hs.2.size)⟩)
   have HB0:=au (show∀k y,SI xb k y->ai W W y fromλk y hs=>by rw[D7.o]at hs;exact hs.2);have HST:=au (show∀k y,(hk:k<es.length)->SI xb k y->∀kd nd I ex tx ek en,es[k]=⟨kd,nd,I,ex,tx,ek,en⟩->∃S:List (Int×Int×Int),aj prog 24 #[xb,aG #[an ar kd,an ar nd,an ar I,an ar ex,aA tx,an ar ek,an ar en]] y (λe z=>∃(vd id:Int) (sa:Option Addr) (sn sk:Nat) (la:Option Addr) (ln lk:Nat) (got:Int),e=ax (aG #[an ar kd,an ar nd,an ar I,an ar ex,aA tx,an ar ek,an ar en,vd,id,av sa sn sk,(got:Int),av la ln lk])/\SI xb (k+1) z/\aT iE 3 z (av sa sn sk) S)/\S.length<=24/\
    (Z (k+1)=Z k∨(Z (k+1)=Z k+1/\∀w:Int,1<=w->w<=d->((S.map λt=>(t.2.1,t.2.2)).countP λt=>decide (t=(0,w)))=1))fromλk y hk hs kd nd I ex tx ek en hE=>by
    rw[D7.o]at hs;obtain⟨K,h2⟩:=hs;have⟨t1,t2⟩:=Bk C es hk;have hx:Z (k+1)=eU (bC C (bW C (es.take k)) (es[k])).1.co.told:=by rw[FM.o];show eU (bW C (es.take (k+1))).co.told=_;rw[t1]
    have hx0:Z k=eU (bW C (es.take k)).co.told:=by rw[FM.o]
    have hr:=rY (c:=C) (bW C (es.take k)) (es[k]);have hst:=K.VP h2 (by have:=HN.o;omega) (aO _ _) (es[k]) (qL.o _ (eA hk));have hs1:=Ss K.ok (by have:=HN.o;omega) (es[k]);have hbd:=(zO K.ok (es[k])).1;refine⟨(bC C (bW C (es.take k)) (es[k])).2.sent,?_,hbd,?_⟩
    .have hvl:(es[k]).vl=aG #[an ar kd,an ar nd,an ar I,an ar ex,aA tx,an ar ek,an ar en]:=by rw[hE];rfl
     rw[hvl]at hst;refine hst.mono ?_;rintro e z ⟨sa,sn,sk,la,ln,lk,rfl,g1,g2,g3,_⟩;refine⟨(bC C (bW C (es.take k)) (es[k])).2.verdict,(bC C (bW C (es.take k)) (es[k])).2.id,sa,sn,sk,la,ln,lk,(bC C (bW C (es.take k)) (es[k])).2.got,?_,?_,g3⟩
     .show Ending.returned (qC _ _ _ _ _ _ _ _ _ _ _ _)=_
      rw[hr,hE];rfl
     .rw[D7.o]
      show rC C xb _ (bW C (es.take (k+1))) (iQ C (es.take (k+1))) (k+1) z/\_
      rw[t1,t2];exact⟨g1,g2⟩
    .rw[hx,hx0,<-Dj.o]
     exact hs1)
   have⟨alh,HWB⟩:=aK (show 1<=d by rw[<-Dj.o];exact(aV.bounds HM.o).w1) (show d<=5 by rw[<-Dj.o];exact(aV.bounds HM.o).w2);clear hl Y hm h0 K h2 h3 h4 h5 h6 h7 h8 h9 h10 h11 ql;go_wp2;go_loopw [6,7] (λl i wr=>∃k:Nat,k<=N/\i=an ar k/\l=an ar (Z k)/\SI xb k wr) (λ_ i _=>N-(intOf i).toNat)
   case atStart=>exact⟨0,bz _,rfl,by rw[HL0.o],Pu.o⟩
   case round=>
    obtain⟨k,hk,rfl,rfl,hsi⟩:=hrel;by_cases hlt:k<N
    .have hkl:k<es.length:=by rw[<-HN.o];exact hlt
     obtain⟨b,o,rfl,B,J⟩:=J_.o k hkl;have hgd:es.getD k ()=es[k]:=by simp[aU,hkl]
     rw[hgd]at J;have⟨E,hE⟩:=aD (es[k]);have htx:=(qL.o _ (eA hkl)).2;rw[<-hE]at J htx;obtain⟨kd,nd,I,ex,tx,ek,en⟩:=E;simp only at htx;have WA:=au (show∀y,ai W W y->b<y.heap.size/\y.cell? ⟨b,o+k*7,none⟩=some (an ar kd)/\y.cell? ⟨b,o+k*7+1,none⟩=some (an ar nd)/\y.cell? ⟨b,o+k*7+2,none⟩=some (an ar I)/\y.cell? ⟨b,o+k*7+3,none⟩=some (an ar ex)/\y.cell? ⟨b,o+k*7+4,none⟩=some (aA tx)/\y.cell? ⟨b,o+k*7+5,none⟩=some (an ar ek)/\y.cell? ⟨b,o+k*7+6,none⟩=some (an ar en)fromλy G=>⟨bP B G.size,by simpa using(G.cell (p:=⟨b,o+k*7+0,none⟩) B).trans (J 0 (an ar kd) rfl),(G.cell (p:=⟨b,o+k*7+1,none⟩) B).trans (J 1 (an ar nd) rfl),(G.cell (p:=⟨b,o+k*7+2,none⟩) B).trans (J 2 (an ar I) rfl),(G.cell (p:=⟨b,o+k*7+3,none⟩) B).trans (J 3 (an ar ex) rfl),(G.cell (p:=⟨b,o+k*7+4,none⟩) B).trans (J 4 (aA tx) rfl),(G.cell (p:=⟨b,o+k*7+5,none⟩) B).trans (J 5 (an ar ek) rfl),(G.cell (p:=⟨b,o+k*7+6,none⟩) B).trans (J 6 (an ar en) rfl)⟩);have⟨S,hst,hsl,hov⟩:=HST.o k wr hkl hsi kd nd I ex tx ek en hE.symm;have⟨LG,HOV⟩:=aK hst hov;have q1:(0:Int)<=(k:Int):=by omega
     have q2:(k:Int)<(N:Int):=by omega
     have⟨L,hL⟩:=aD (Z k);have Uv:=au hL;have⟨L2,hL2⟩:=aD (Z (k+1));have HL2:=au hL2;rw[<-hL];have⟨bl,p0,p1,p2,p3,p4,p5,p6⟩:=WA.o wr (HB0.o _ _ hsi);clear J hgd hE B hsi hkl htx hL hL2 hst hov;go_wp2_with fail
     refine LG.m ?_;rintro e z ⟨vd,id,sa,sn,sk,la,ln,lk,got,rfl,hz,hsr⟩;have⟨z2,hz2⟩:=aD (z.alloc (aB #[an ar kd,an ar nd,an ar I,an ar ex,aA tx,an ar ek,an ar en,vd,id,av sa sn sk,(got:Int),av la ln lk] 45 (0,0)));have hbx:z2.heap[z.heap.size]? =some (aB #[an ar kd,an ar nd,an ar I,an ar ex,aA tx,an ar ek,an ar en,vd,id,av sa sn sk,(got:Int),av la ln lk] 45 (0,0)):=by rw[hz2];exact a_ _ _
     have hbz:ai z z z2:=by rw[hz2];exact(aO _ _).alloc (aP _) _
     have HS2:=au (sB.o _ _ _ hz hbz);have agE:=hsr.below hbz;have⟨HZ2,ue,HSR⟩:=aX hz2 hbx agE;have⟨cb,hc1,hc2⟩:=Jt.o (k+1) z2 (by omega) HS2.o;have⟨se,qS⟩:=aK hc1 hc2;clear hz2 hbx hbz hz hsr agE hc1 hc2 p0 p1 p2 p3 p4 p5 p6 bl;go_upto_region 11 with fail
     rw[<-HZ2.o];go_wp2_with fail
     refine aH se.o ?_;go_wp2_with fail
     refine qS.m ?_;rintro e z3 ⟨a3,n3,m3,U,rfl,hn1,hn2,hn3,hs3,hb3,hu⟩;have⟨HU,FU,Mh⟩:=aX hu hs3 (show(n3:Int)-(U:Int)=L2 from hn1.trans HL2.o.symm);have HLB:=au (show 0<=L2/\L2<=1000000 by have:=Mh.o;omega);clear hu hs3 hn1;go_wp2_with fail
     refine aH HU.o ?_;go_upto_region 13 with fail
     rw[Mh.o];have Kl:=(hb3.block z (az ue.o)).trans ue.o;have⟨sa',sk',e1,m1,m2,hrows⟩:=HSR.o.below hb3;simp only[bG]at e1;obtain⟨rfl,rfl,rfl⟩:=e1;unfold maxLen at m1;have⟨M,hM⟩:=aD S.length;have⟨tb,htb⟩:=aD z3.heap.size;have⟨y5,Ez⟩:=aD (z3.alloc (aB #[an ar 0,an ar 0,an ar 0,an ar 0,an ar 0,an ar 0] 70 (0,0)));have⟨HA0,HTB⟩:=aK (show VS z3 tb S 0 y5 from⟨by rw[Ez,htb];exact a_ _ _,by rw[Ez];exact(aO _ _).alloc (aP _) _⟩) (show z3.heap.size<=tb from Nat.le_of_eq htb.symm);have Wv:=au (show∀y,ai z3 z3 y->z.heap.size<y.heap.size/\y.cell? ⟨z,9,none⟩=some (av sa M sk)fromλy G=>by
      have h:=(G.block _ (az Kl)).trans Kl;rw[hM];exact⟨az h,aF h _ rfl⟩)
     have HRW:=au (show∀y j,ai z3 z3 y->j<M->∃sb so fr tt,sa=some ⟨sb,so,none⟩/\sb<y.heap.size/\y.cell? ⟨sb,so+j*3+1,none⟩=some (an ar fr)/\y.cell? ⟨sb,so+j*3+2,none⟩=some (an ar tt)/\(S.getD j ()).2.1=fr/\(S.getD j ()).2.2=tt fromλy j G hj=>by
      have⟨sb,so,e,B,hc⟩:=hrows j (by omega);exact⟨sb,so,_,_,e,bP B G.size,(G.cell (p:=⟨sb,so+j*3+1,none⟩) B).trans (hc 1 _ rfl),(G.cell (p:=⟨sb,so+j*3+2,none⟩) B).trans (hc 2 _ rfl),rfl,rfl⟩)
     have HMS:=au (show M=S.length from hM);have ar4:M<=24:=by omega
     have HFN:=au (show Z (k+1)=Z k∨(Z (k+1)=Z k+1/\∀w:Nat,1<=w->(w:Int)<=d->rE S M w=1)by
      obtain h|⟨K,h2⟩:=HOV.o
      .exact .inl h
      .refine .inr ⟨K,λw w1 w2=> ?_⟩
       have:=h2 (w:Int) (by omega) w2;unfold rE;rw[hM,fR,this];rfl)
     rw[<-Uv.o,<-HL2.o]at HFN;have⟨HW3,Yv⟩:=aK (show∀y,ai z3 z3 y->q<y/\y.cell? q=(wv)/\y.cell? ⟨q,1,none⟩=(cv)/\y.cell? ⟨q,2,none⟩=d/\y.cell? ⟨q,3,none⟩=g/\y.cell? ⟨q,4,none⟩=s/\y.cell? ⟨q,5,none⟩=x/\y.cell? ⟨q,6,none⟩=aS/\y.cell? ⟨q,7,none⟩=A/\y.cell? ⟨q,8,none⟩=first/\y.cell? ⟨q,9,none⟩=X/\y.cell? ⟨q,10,none⟩=r/\y.cell? ⟨q,11,none⟩=net fromλy G=>I4.o y ((HB0.o _ _ FU.o).trans (G.mono (HB0.o _ _ FU.o).size))) (show∀y,ai z3 z3 y->SI xb (k+1) y fromλy G=>sB.o _ _ _ FU.o G);rw[<-hM]at m1 m2;have⟨HY5,HTE⟩:=aK Ez htb;clear Kl hrows hM htb Ez hb3;go_upto_region 14 with fail
     rw[<-HY5.o,<-HTE.o];go_wp2;go_loopw [12] (λi y8=>∃j:Nat,j<=M/\i=an ar j/\VS z3 tb S j y8) (λi _=>M-(intOf i).toNat)
     case atStart=>exact⟨0,bz _,rfl,HA0.o⟩
     case round=>
      rename ae=>y8
      obtain⟨j,hj,rfl,f⟩:=hrel;have⟨zl,d9⟩:=Wv.o y8 f.2;by_cases hlj:j<M
      .obtain⟨sb,so,fr,tt,rfl,sl,w1,w2,g1,g2⟩:=HRW.o y8 j f.2 hlj
       have hjS:j<S.length:=by rw[<-HMS.o];exact hlj
       have r1:(0:Int)<=(j:Int):=by omega
       have r2:(j:Int)<(M:Int):=by omega
       have⟨Zs,HG2⟩:=aK g1 g2;clear g1 g2;by_cases c1:fr=0
       .have b1:(fr==0)=true:=by simp[c1]
        by_cases c2:0<=tt
        .by_cases c3:tt<=5
         .obtain⟨T,hT⟩:∃T:Nat,tt=(T:Int):=⟨tt.toNat,by omega⟩
          have hT5:T<=5:=by omega
          have⟨tl,t1,t2⟩:=f.get hT5;have hset:=f.set HTB.o hjS (Zs.o.trans c1) (HG2.o.trans hT) hT5;have⟨cb1,cb2⟩:=Y4 S j T;subst hT;have⟨F,hF⟩:=aD (rE S j T);rw[<-hF]at t1 hset cb1 cb2;have⟨O,HF⟩:=aK hset hF;have hT6:(T:Int)<6:=by omega
          clear f hset c1 hF;go_wp2;go_roundw
          case rel=>exact⟨j+1,by omega,by go_num,O.o⟩
          case measure=>simp[intOf];omega
         .have hn:¬((S.getD j ()).2.1=0/\0<=(S.getD j ()).2.2/\(S.getD j ()).2.2<=5):=by have:=HG2.o;omega
          have b3:¬tt<=5:=c3;clear c1;have O:=au (f.skip hjS hn);clear f hn;go_wp2;go_roundw
          case rel=>exact⟨j+1,by omega,by go_num,O.o⟩
          case measure=>simp[intOf];omega
        .have hn:¬((S.getD j ()).2.1=0/\0<=(S.getD j ()).2.2/\(S.getD j ()).2.2<=5):=by have:=HG2.o;omega
         clear c1;have O:=au (f.skip hjS hn);clear f hn;go_wp2;go_roundw
         case rel=>exact⟨j+1,by omega,by go_num,O.o⟩
         case measure=>simp[intOf];omega
       .have hn:¬((S.getD j ()).2.1=0/\0<=(S.getD j ()).2.2/\(S.getD j ()).2.2<=5):=by have:=Zs.o;omega
        have b1:(fr==0)=false:=by simp[c1]
        clear c1;have O:=au (f.skip hjS hn);clear f hn;go_wp2;go_roundw
        case rel=>exact⟨j+1,by omega,by go_num,O.o⟩
        case measure=>simp[intOf];omega
      .have hjM:j=M:=by omega
       rw[hjM]at f⊢;clear hjM hlj hj;have⟨O,HFM⟩:=aK f f.2;clear f;go_wp2;go_loopw [13] (λi y9=>∃j:Nat,1<=j/\(j:Int)<=d+1/\i=an ar j/\VS z3 tb S M y9) (λi _=>7-(intOf i).toNat)
       case atStart=>exact⟨1,aP _,by have:=alh.o;omega,rfl,O.o⟩
       case round=>
        rename ae=>y9
        obtain⟨j,hj1,hj2,rfl,f⟩:=hrel;have⟨ql,h0,K,h2,h3,h4,h5,h6,h7,h8,h9,h10,h11⟩:=HW3.o y9 f.2;have HB9:=au (Yv.o y9 f.2);by_cases hjw:(j:Int)<=d
        .obtain he|⟨he,hc⟩:=HFN.o
         .have hgt:¬L<L2:=by omega
          have HE:=au (he.symm.trans HL2.o);clear f;go_wp2;go_roundw
          case rel=>exact⟨k+1,by omega,by go_num,by rw[<-HL2.o],HB9.o⟩
          case measure=>simp[intOf];omega
         .have K:=hc j hj1 hjw
          have hj5:j<=5:=by have:=HWB.o;omega
          have⟨tl,t1,_⟩:=f.get hj5;rw[K]at t1;have ali:=au f;have hgt:L<L2:=by omega
          have⟨b1,b2⟩:=HLB.o;have hle:¬(L2 !=L+1)=true:=by simp[he]
          have r1:(0:Int)<=(j:Int):=by omega
          have r2:(j:Int)<6:=by omega
          subst he;clear f K hc hle;go_wp2;go_roundw
          case rel=>exact⟨j+1,by omega,by omega,by go_num,ali.o⟩
          case measure=>simp[intOf];omega
        .clear f Jt sB
         go_wp2;go_roundw
         case rel=>exact⟨k+1,by omega,by go_num,by rw[<-HL2.o],HB9.o⟩
         case measure=>simp[intOf];omega
    .obtain rfl:k=N:=by omega
     have HE:=au (CA.o wr (HB0.o _ _ hsi));clear hsi;go_wp2_with fail
     refine HE.m ?_;rintro e y2 ⟨rfl,hy2⟩;have HE2:=au hy2;clear hy2;go_wp2;exact HE2.o
open Go.ChangeShapes Go.WideShapes Go.ChangeAt
def yL(y:Os)(a:y.Started)(H:Type)(enc:TypeId×ah->H):
 ReturnsInHanded {} Tryz.checked y 9 .any (Rows.topStopsSpec.pre6 enc prog Tryz.f9 Rows.topStopsRow.domain false) (Rows.topStopsSpec.post enc prog Tryz.f9 false true false false):=by
 refine returnsInHanded_of_change (C:=Tryz.checked) Ib a (by kernel_rfl) func9
  (ChangeSpec.witness6 (enc:=enc) (C:=Tryz.checked) false ⟨#[],#[aG #[(),(),an ar 0,an ar 0,an ar 0,an ar 0,an ar 0,an ar 0,an ar 0,an ar 0,an ar 0,an ar 0],()],[]⟩ 8 (by kernel_rfl) (by kernel_rfl) (by kernel_rfl) (by kernel_rfl)) ?_
 intro W base args J gs f b z _ _;have c:∀(j:Nat) t v,Tryz.f9.params[j]? =some t->args[j]? =some v->Value.okWide prog W .any base t v:=b
 have g:=z;obtain⟨p,q,sr,K,rfl,_,_⟩:=z;have A:DataW.TrodAll enc prog W 0 (λ_=>true) true Tryz.f9.params.toList args.toList J p:=sr;rw[Tryz.params9]at A c;obtain⟨B,L,d0,M,N,q0,i,rfl,rfl,E,O⟩:=trodAll_cons A;obtain⟨k,P,d1,Q,T,q1,rfl,rfl,rfl,F,U⟩:=trodAll_cons O;obtain⟨rfl,rfl,rfl⟩:=trodAll_nil U;obtain rfl:args= #[B,k]:=by cases args;simp_all
 obtain⟨rfl,rfl⟩:=trodVars_none K;have G:=E;have l:∀x∈N,x.block<W.heap.size:=by obtain⟨m,n⟩:=G;exact DataW.trod_lt m _ _ _ n
 obtain⟨V,rfl,o,X,Y⟩:=gW (c 0 25 B rfl rfl) E;have I:=F;have r:∀x∈T,x.block<W.heap.size:=by obtain⟨m,n⟩:=I;exact DataW.trod_lt m _ _ _ n
 have⟨s,u,w⟩:=fN (c 1 26 k rfl rfl) F;clear sr b;refine(acf V k s W o u w).mono λe W' ⟨Z,d⟩=> ?_
 subst Z;exact⟨_,rfl,_,_,_,[],_,[],g,trodAll_mk1 (shut_bool underlying4 _),(trodAll_cons_mk (Below.trod oK (by kernel_rfl) (of_decide_eq_true (by kernel_rfl)) G d l) (trodAll_cons_mk (Below.trod oK (by kernel_rfl) (of_decide_eq_true (by kernel_rfl)) I d r) trodAll_mk0)),rfl,d.frame _,λh=>by cases h⟩
theorem Wf:Rows.TopStopsSaid:=
 OpenClaim.holds_of_wide 9 Tryz.f9 rfl rfl rfl rfl rfl rfl rfl ⟨rfl,rfl,rfl,rfl,rfl⟩ rfl rfl rfl rfl rfl (by kernel_rfl) func9 Ce
  (of_decide_eq_true (by kernel_rfl)) (by unfold Func.isWrapper;rw[aC (of_decide_eq_false (by kernel_rfl))];exact⟨rfl,rfl⟩)
  (λb a H enc _=>yL b a H enc)
end Go.Proofs.YtjpnlfpompnpkaaGreat
