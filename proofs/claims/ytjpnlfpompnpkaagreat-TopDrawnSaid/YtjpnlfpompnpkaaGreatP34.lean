/-
  The law TopDrawn: for every input it returns true, and its arguments read as they did; under no condition but the row's.
-/
import Derived.Test.YtjpnlfpompnpkaaGreatP30
import Derived.Test.YtjpnlfpompnpkaaGreatP33
namespace Go.Proofs.YtjpnlfpompnpkaaGreat
open Go.RowKit Go.Proofs.Tryz
open Go.Value renaming int->an,slice->av,bool->aw,string->aA,tuple->aM,pointer->aL,agg->aG
open Go.IntKind renaming i64->ar
open Go.Ending renaming returned->ax
open Go.Obj renaming cells->aB
open Go renaming World->ae,Value->ah,Calls->aj,Ending->ak
open Go.RowKit renaming Below->ai
set_option maxRecDepth 100000
set_option linter.all false
set_option maxHeartbeats 2000000
open mX
variable{c:aV}
def R6(b:c.b_=0)(a d e:Int):kC c.first c.cap c.b_ a d=kC c.first c.cap c.b_ a e:=by
 unfold kC;rw[b,show clip 0 1000+1=1 from rfl];unfold low;rw[Int.emod_one,Int.emod_one]
def R7(b:c.b_=0)(x:cB)(y:ej)(s:Nat)(d a:Int):cL c x y s d=cL c x y s a:=by
 unfold cL;simp only[R6 b _ d a]
def xE(e:c.b_=0)(d a:Int):∀(l:List Int) (x:cB) (y:ej) (b:List fF),dL c d l x y b=dL c a l x y b
 | [],_,_,_=>rfl
 |s::l,x,y,b=>by
  unfold dL;rw[R7 e x y s.toNat d a];exact xE e d a l _ _ _
def E9(b:c.b_=0)(x:cB)(d a:Int):∀k:Nat,dM c x d k=dM c x a k
 |0=>rfl
 |k+1=>by
  unfold dM lE;rw[E9 b x d a k];simp only[xE b d a]
def V0(b:c.b_=0)(x:di)(nd d a:Int):gM c x nd d=gM c x nd a:=by
 unfold gM iD;rw[E9 b x.co d a]
def fe(a:Int)(e:cO):cO:=if e.kind=4 then{e with x:=a}else e
def PW(lh:Int)(e:cO):∀(l:List fF) (x:di) (r:cS),dh c x {r with ev:=e} lh l=((dh c x r lh l).1,{(dh c x r lh l).2 with ev:=e})
 | [],x,r=>rfl
 |y::l,x,r=>by
  have h:∀x r,dh c x r lh (y::l)=dh c (cF c lh (x,r) y).1 (cF c lh (x,r) y).2 lh l:=λ_ _=>rfl
  have h1:cF c lh (x,{r with ev:=e}) y=((cF c lh (x,r) y).1,{(cF c lh (x,r) y).2 with ev:=e}):=by
   unfold cF;split<;>rfl
  rw[h,h,h1];exact PW lh e l _ _
def R8(i:c.b_=0)(x:di)(e:cO)(a:Int):bC c x (fe a e)=((bC c x e).1,{(bC c x e).2 with ev:=fe a e}):=by
 by_cases b:e.kind=4
 .have d:fe a e={e with x:=a}:=by unfold fe;rw[aI b]
  have g:∀f:cO,f.kind=4->bC c x f=if 0<=f.node/\f.node<=x.ws.length then dh c (gM c x f.node f.x).1 ⟨f,0,0,[],-1,[]⟩ f.node (gM c x f.node f.x).2 else(x,⟨f,0,0,[],-1,[]⟩):=λf j=>by
   unfold bC cM;rw[aC (by omega),aC (by omega),aC (by omega),aI j]
  rw[d,g e b,g {e with x:=a} b];simp only;split
  .rw[V0 i x e.node a e.x]
   exact PW (c:=c) e.node {e with x:=a} _ _ ⟨e,0,0,[],-1,[]⟩
  .rfl
 .have d:fe a e=e:=by unfold fe;rw[aC b]
  rw[d];have h:=rY (c:=c) x e;generalize bC c x e=p at*;obtain⟨k,r⟩:=p;simp only at h;subst h;rfl
def tC(b:c.b_=0)(a:Int):∀(es:List cO) (x:di),(cT c x (es.map (fe a))).1=(cT c x es).1/\(cT c x (es.map (fe a))).2=(cT c x es).2.zipWith (λr e=>{r with ev:=fe a e}) es
 | [],x=>⟨rfl,rfl⟩
 |e::es,x=>by
  have h:=R8 b x e a;have⟨h1,h2⟩:=tC b a es (bC c x e).1;have d:cT c x ((e::es).map (fe a))=((cT c (bC c x (fe a e)).1 (es.map (fe a))).1,(bC c x (fe a e)).2::(cT c (bC c x (fe a e)).1 (es.map (fe a))).2):=rfl;have f:cT c x (e::es)=((cT c (bC c x e).1 es).1,(bC c x e).2::(cT c (bC c x e).1 es).2):=rfl;rw[d,f,h];refine⟨h1,?_⟩;simp only[h2];rfl
open Go.ChangeMaps
variable{P:Tg->Prop}{τ br:cj}{w w' y z:ae}
def R9{c:aV}(b:c.b_=0)(es:List cO)(a:Int):mB c (es.map (fe a))=mB c es:=by
 unfold mB bW;rw[(tC b a es (gA c)).1]
def R_{c:aV}(e:c.b_=0)(es:List cO)(a:Int):(gB c (es.map (fe a))).length=(gB c es).length/\∀k (b:k<(gB c (es.map (fe a))).length) (d:k<(gB c es).length),(gB c (es.map (fe a)))[k].sent=(gB c es)[k].sent/\(gB c (es.map (fe a)))[k].lost=(gB c es)[k].lost/\(gB c (es.map (fe a)))[k].got=(gB c es)[k].got:=by
 unfold gB iQ;split
 .rw[(tC e a es (gA c)).2]
  have f:=kE c es (gA c);refine⟨by simp[f],λk b d=> ?_⟩;simp
 .exact⟨rfl,λk b d=>by cases b⟩
def Sa(a:Int)(es:List cO){k:Nat}(b:k<es.length):(es.take (k+1)).map (fe a)=(es.take k).map (fe a)++ [fe a (es[k])]:=by
 rw[fG b,gF];rfl
def ab4(c:aV)(v:ah)(es:List cO)(a:Int)(w:ae)(hc:c.rd w)(hes:aT cO.cells 7 w v es)(he:∀e∈es,te e):aj prog 6 #[c.val,v,an ar a] w λe w'=>e=ax (aw true)/\ai w w w':=by
 have⟨u,hu⟩:=aD (w.alloc (aB c.cells.toArray 25 (0,0)));have⟨hbx,hg,hl2⟩:=aV.box hu;have G:=hl2.aJ;have V:u.heap[w.heap.size]? =some (aB c.cells.toArray 25 (0,0)):=by rw[hu];exact a_ _ _
 have⟨q,hq⟩:=aD w.heap.size;rw[<-hq]at V hbx;have⟨Er,qH,CN,oM⟩:=c_ (hes.below G) (hc.below G) he (qe (hc.below G) (hes.below G) 300 (by decide));have⟨Q,hQ⟩:= @aD (ak->ae->Prop) (λe w'=>e=ax (aw true)/\ai w w w');have K9:=au (show∀y,ai u u y->Q (ax (aw true)) y fromλy g=>by rw[hQ];exact⟨rfl,G.trans (g.mono G.size)⟩);have uG:=au (show∀y,ai u u y->aj prog 14 #[] y λe z=>e=ax (aw true)/\Q (ax (aw true)) z fromλy g=>(nS y).mono λe z ⟨h1,h2⟩=>⟨h1,K9.o z (g.trans (h2.mono g.size))⟩);rw[<-hQ];have⟨C,hC⟩:=aD c;rw[<-hC]at oM qH;have⟨F,W⟩:=aD ({c with b_:=0}:aV);have⟨HRW,HEW,HK0,HJ0⟩:=c_ (show F.rd w by rw[W];exact⟨hc.w,hc.k⟩) hes (show∀y z,C.ok y->F.rd z->F.ok z by rw[W,hC];exactλy z h k=>⟨k.w,k.k,h.ws,h.cs⟩) (show F.b_=0 by rw[W]);obtain⟨wv,cv,words,cuts,workers,copies,slots,batch,aS,dY,first,cap,b_,net⟩:=c;have th:=au (show∀y,ai u u y->q<y/\y.cell? q=(wv)/\y.cell? ⟨q,1,none⟩=(cv)/\y.cell? ⟨q,2,none⟩=workers/\y.cell? ⟨q,3,none⟩=copies/\y.cell? ⟨q,4,none⟩=slots/\y.cell? ⟨q,5,none⟩=batch/\y.cell? ⟨q,6,none⟩=aS/\y.cell? ⟨q,7,none⟩=dY/\y.cell? ⟨q,8,none⟩=first/\y.cell? ⟨q,9,none⟩=cap/\y.cell? ⟨q,10,none⟩=b_/\y.cell? ⟨q,11,none⟩=net fromλy g=>by
  have f:=(g.block q (az V)).trans V;exact⟨az f,aF f _ rfl,aF f _ rfl,aF f _ rfl,aF f _ rfl,aF f _ rfl,aF f _ rfl,aF f _ rfl,aF f _ rfl,aF f _ rfl,aF f _ rfl,aF f _ rfl,aF f _ rfl⟩)
 have vR:=au (show C.val=aG #[wv,cv,workers,copies,slots,batch,aS,dY,first,cap,b_,net]by rw[hC];rfl);have hval:aV.val ⟨wv,cv,words,cuts,workers,copies,slots,batch,aS,dY,first,cap,b_,net⟩=aG #[wv,cv,workers,copies,slots,batch,aS,dY,first,cap,b_,net]:=rfl;have⟨HU,HQ⟩:=aK (show u=w.alloc (aB #[wv,cv,workers,copies,slots,batch,aS,dY,first,cap,b_,net] 25 (0,0))from hu) hq;rw[hval];rw[vR.o]at oM;have⟨ql,h0,h1,h2,h3,h4,h5,h6,h7,h8,h9,J,K⟩:=th.o u (aO _ _);obtain⟨va,vc,rfl,hn1,hn2,hrd⟩:=hes;unfold maxLen at hn1;have⟨N,hN⟩:=aD es.length;have HN:=au hN;rw[<-hN]at hn1 hn2 oM⊢;have⟨HB0,ZH,HQW,HV0⟩:=c_ V G (show∀y,ai w w y->Q (ax (aw true)) y by rw[hQ];exactλy h=>⟨rfl,h⟩) (show F.val=aG #[wv,cv,workers,copies,slots,batch,aS,dY,first,cap,an ar 0,net]by rw[W];rfl);clear hQ hu hbx hl2 G hq hval hC V hrd hN hc he W;go_in;go_upto_region 1 with fail
 rw[<-HU.o,<-HQ.o];go_wp2_with fail
 refine oM.m ?_;rintro e y0 ⟨b,rfl,X,hbf⟩;obtain rfl|rfl:=Bool.eq_false_or_eq_true b
 .have HA:=au (uG.o y0 X)
  clear hbf X;go_wp2_with fail
  refine HA.m ?_;rintro e y1 ⟨rfl,hy1⟩;have HE:=au hy1;clear hy1;go_wp2;exact HE.o
 .have⟨hok,hle,htx⟩:=hbf rfl
  have l:=rF htx CN.o;have O0:es.length<=300:=by have:=HN.o;omega
  have hq0:=HQ.o;have t:=ZH.o.trans (X.mono ZH.o.size);have hbq:=(X.block q (az HB0.o)).trans HB0.o;have⟨u1,hu1⟩:=aD (y0.setCell ⟨q,10,none⟩ (0:Int));have hb1:u1.heap[q]? =some (aB #[wv,cv,workers,copies,slots,batch,aS,dY,first,cap,an ar 0,net] 25 (0,0)):=by
   have:=aE (i:=10) hbq (0:Int);rw[<-hu1]at this;exact this
  have Y:ai w w u1:=by rw[hu1];exact t.setCell (p:=⟨q,10,none⟩) (by rw[hq0];exact aP _) _
  have hfz:=bB hbq 10;have⟨HU1,HC0⟩:=aK hu1 (HK0.o _ u1 hok (HRW.o.below Y));have La:=au (show aT cO.cells 7 u1 (av va N vc) es by
   have:=HEW.o.below Y;rw[<-HN.o]at this;exact this)
  have I4:=au (show∀y,ai u1 u1 y->q<y/\y.cell? q=(wv)/\y.cell? ⟨q,1,none⟩=(cv)/\y.cell? ⟨q,2,none⟩=workers/\y.cell? ⟨q,3,none⟩=copies/\y.cell? ⟨q,4,none⟩=slots/\y.cell? ⟨q,5,none⟩=batch/\y.cell? ⟨q,6,none⟩=aS/\y.cell? ⟨q,7,none⟩=dY/\y.cell? ⟨q,8,none⟩=first/\y.cell? ⟨q,9,none⟩=cap/\y.cell? ⟨q,10,none⟩=(0:Int)/\y.cell? ⟨q,11,none⟩=net fromλy g=>by
   have f:=(g.block q (az hb1)).trans hb1;exact⟨az f,aF f _ rfl,aF f _ rfl,aF f _ rfl,aF f _ rfl,aF f _ rfl,aF f _ rfl,aF f _ rfl,aF f _ rfl,aF f _ rfl,aF f _ rfl,aF f _ rfl,aF f _ rfl⟩)
  have CA:=au (show∀y,ai u1 u1 y->aj prog 14 #[] y λe z=>e=ax (aw true)/\Q (ax (aw true)) z fromλy g=>(nS y).mono λe z ⟨h1,h2⟩=>⟨h1,HQW.o z (Y.trans ((g.trans (h2.mono g.size)).mono Y.size))⟩);have hdl:(es.map (fe a)).length<=4000:=by rw[cr];omega
  have hde:∀e∈es.map (fe a),tj e:=λe h=>by
   obtain⟨x,hx,rfl⟩:=List.mem_map.1 h;have:=l x hx;unfold fe;split
   .exact this
   .exact this
  have HR1:=au (show∀y,ai u1 u1 y->aj prog 17 #[F.val,av va N vc] y λe z=>∃tv rv,e=ax (aM #[tv,rv,an ar (Bm F)])/\eM y z tv (mB F es)/\iF y z rv (gB F es)/\ai y y z fromλy g=>by
   refine(NU F es _ y (HC0.o.below g) (La.o.below g) (by omega) l).mono ?_;rintro e z ⟨tv,rv,n,rfl,hp,Z⟩;obtain⟨rfl,h1,h2⟩:=hp.all;exact⟨tv,rv,rfl,h1,h2,Z⟩)
  have HR2:=au (show∀y v',ai u1 u1 y->aT cO.cells 7 y v' (es.map (fe a))->aj prog 17 #[F.val,v'] y λe z=>∃tv rv,e=ax (aM #[tv,rv,an ar (Bm F)])/\eM y z tv (mB F es)/\iF y z rv (gB F (es.map (fe a)))/\ai y y z fromλy v' g hv=>by
   refine(NU F (es.map (fe a)) v' y (HC0.o.below g) hv hdl hde).mono ?_;rintro e z ⟨tv,rv,n,rfl,hp,Z⟩;obtain⟨rfl,h1,h2⟩:=hp.all;rw[R9 HJ0.o]at h1;exact⟨tv,rv,rfl,h1,h2,Z⟩)
  rw[HV0.o]at HR1 HR2;have HDR:=au (R_ HJ0.o es a);have⟨ql,h0,h1,h2,h3,h4,h5,h6,h7,h8,h9,J,K⟩:=th.o y0 X;clear hok hle htx l hbf hq0 t hbq Y hu1 hb1 hdl hde;go_upto_region 5 with fail
  rw[<-HU1.o];clear h0 h1 h2 h3 h4 h5 h6 h7 h8 h9 J K hfz ql;have J_:=au (show∀k,k<es.length->∃b o,va=some ⟨b,o,none⟩/\b<u1.heap.size/\∀j v,(es.getD k ()).cells[j]? =some v->u1.cell? ⟨b,o+k*7+j,none⟩=some v by
   have⟨a',c',e1,_,_,L⟩:=La.o;simp only[bG]at e1;obtain⟨rfl,_,_⟩:=e1;exact L)
  go_wp2;go_loopw [7,8] (λo i wr=>∃k:Nat,k<=N/\i=an ar k/\iS u1 wr o ((es.take k).map (fe a))/\ai u1 u1 wr) (λ_ i _=>N-(intOf i).toNat)
  case atStart=>exact⟨0,bz _,rfl,by rw[List.take_zero];exact iS.nil _ _,aO _ _⟩
  case round=>
   obtain⟨k,hk,rfl,l,d⟩:=hrel;by_cases hlt:k<N
   .have hkl:k<es.length:=by rw[<-HN.o];exact hlt
    obtain⟨b,o,rfl,f,A⟩:=J_.o k hkl;have hgd:es.getD k ()=es[k]:=by simp[aU,hkl]
    rw[hgd]at A;have hsn:=Sa a es hkl;have Xx:((es.take k).map (fe a)).length<=4000:=by rw[cr,dw];omega
    have⟨E,hE⟩:=aD (es[k]);rw[<-hE]at A hsn;obtain⟨H,nd,at',ex,tx,O,T⟩:=E;have p0:=(d.cell (p:=⟨b,o+k*7+0,none⟩) f).trans (A 0 H rfl);have p1:=(d.cell (p:=⟨b,o+k*7+1,none⟩) f).trans (A 1 nd rfl);have p2:=(d.cell (p:=⟨b,o+k*7+2,none⟩) f).trans (A 2 at' rfl);have p3:=(d.cell (p:=⟨b,o+k*7+3,none⟩) f).trans (A 3 ex rfl);have p4:=(d.cell (p:=⟨b,o+k*7+4,none⟩) f).trans (A 4 (aA tx) rfl);have p5:=(d.cell (p:=⟨b,o+k*7+5,none⟩) f).trans (A 5 O rfl);have p6:=(d.cell (p:=⟨b,o+k*7+6,none⟩) f).trans (A 6 T rfl);simp only[bM]at p0;have g1:(0:Int)<=(k:Int):=by omega
    have g2:(k:Int)<(N:Int):=by omega
    clear A hgd hE f;by_cases e4:H=4
    .have⟨y,g⟩:=aD (wr.alloc (aB #[H,nd,at',an ar a,aA tx,O,T] 33 (0,0)))
     have hyb:y.heap[wr.heap.size]? =some (aB #[H,nd,at',an ar a,aA tx,O,T] 33 (0,0)):=by
      rw[g];exact a_ _ _
     have t:ai wr wr y:=by rw[g];exact(aO _ _).alloc (aP _) _
     have I:=d.trans (t.mono d.size);obtain⟨v',w2,r,⟨a1,n1,k1,rfl⟩,s,B⟩:=(l.below t).push [fe a ⟨H,nd,at',ex,tx,O,T⟩] (by simp only[cG,dx];omega) I.size (by simp);have hd:fe a ⟨H,nd,at',ex,tx,O,T⟩=⟨H,nd,at',a,tx,O,T⟩:=by unfold fe;simp[e4]
     have c1:(H==4)=true:=by simp[e4]
     rw[<-hsn]at s;rw[hd]at r;have gN:=au (show∀ty,(Builtin.append_ #[26,26] ty #[u7,av (some ⟨y,0,none⟩) 1 1]).run prog (y.alloc (aB #[H,nd,at',an ar a,aA tx,O,T] 33 (0,0)))=.ok (av a1 n1 k1) w2 from r);have⟨d0,d1,d2,d3,d4,d5,d6⟩:=qN hyb;have⟨HY,HX,U⟩:=aX g s (I.trans B);clear g hyb t I r s B hd hsn Xx l d e4 hkl;go_upto_region 11 with fail
     rw[<-HY.o];clear p0 p1 p2 p3 p4 p5 p6;go_wp2_with (refine cE (by rfl) (.tmp 37) (.tmp 39) 26 (by rfl) _ _ _ w2 (by rfl) (by rfl) (gN.o _) ?_);go_roundw
     case rel=>exact⟨k+1,by omega,by go_num,HX.o,U.o⟩
     case measure=>simp[intOf];omega
    .have⟨y,g⟩:=aD (wr.alloc (aB #[H,nd,at',ex,aA tx,O,T] 33 (0,0)))
     have hyb:y.heap[wr.heap.size]? =some (aB #[H,nd,at',ex,aA tx,O,T] 33 (0,0)):=by
      rw[g];exact a_ _ _
     have t:ai wr wr y:=by rw[g];exact(aO _ _).alloc (aP _) _
     have I:=d.trans (t.mono d.size);obtain⟨v',w2,r,⟨a1,n1,k1,rfl⟩,s,B⟩:=(l.below t).push [fe a ⟨H,nd,at',ex,tx,O,T⟩] (by simp only[cG,dx];omega) I.size (by simp);have hd:fe a ⟨H,nd,at',ex,tx,O,T⟩=⟨H,nd,at',ex,tx,O,T⟩:=by unfold fe;simp[e4]
     have c1:(H==4)=false:=by simp[e4]
     rw[<-hsn]at s;rw[hd]at r;have gN:=au (show∀ty,(Builtin.append_ #[26,26] ty #[u7,av (some ⟨y,0,none⟩) 1 1]).run prog (y.alloc (aB #[H,nd,at',ex,aA tx,O,T] 33 (0,0)))=.ok (av a1 n1 k1) w2 from r);have⟨d0,d1,d2,d3,d4,d5,d6⟩:=qN hyb;have⟨HY,HX,U⟩:=aX g s (I.trans B);clear g hyb t I r s B hd hsn Xx l d e4 hkl;go_upto_region 11 with fail
     rw[<-HY.o];clear p0 p1 p2 p3 p4 p5 p6;go_wp2_with (refine cE (by rfl) (.tmp 37) (.tmp 39) 26 (by rfl) _ _ _ w2 (by rfl) (by rfl) (gN.o _) ?_);go_roundw
     case rel=>exact⟨k+1,by omega,by go_num,HX.o,U.o⟩
     case measure=>simp[intOf];omega
   .obtain rfl:k=N:=by omega
    rw[HN.o,fR]at l;obtain⟨ao,no,ko,rfl⟩:∃a n k,u7=av a n k:=by
     have⟨a,k,e,_⟩:=l.rd;exact⟨a,_,k,e⟩
    have⟨ql,h0,h1,h2,h3,h4,h5,h6,h7,h8,h9,J,K⟩:=I4.o wr d;have⟨N7,HRA,sB⟩:=aX l (HR1.o wr d) d;clear l d;go_wp2_with fail
    refine HRA.m ?_;rintro e y2 ⟨tv,rv,rfl,ht,hr,hy2⟩;have B:=sB.o.trans (hy2.mono sB.o.size);have F4:=au (HR2.o y2 _ B (N7.o.below hy2).rd);clear h0 h1 h2 h3 h4 h5 h6 h7 h8 h9 J K ql;have⟨ql,h0,h1,h2,h3,h4,h5,h6,h7,h8,h9,J,K⟩:=I4.o y2 B;have⟨HT,HR,U⟩:=aX ht hr B;clear ht hr hy2 B;go_wp2_with fail
    refine F4.m ?_;rintro e y3 ⟨tv2,rv2,rfl,ht2,L,hy3⟩;have hb3:=U.o.trans (hy3.mono U.o.size);have ht1:=HT.o.below hy3;have hr1:=HR.o.below hy3;obtain⟨ta,tk,rfl,_⟩:=ht1.len;obtain⟨ua,uk,rfl,_⟩:=ht2.len;obtain⟨pa,pk,rfl,pl1,Yn⟩:=hr1.len;have⟨ra,rk,hrv,Wo,Wx⟩:=L.len;subst hrv;unfold maxLen at Yn Wx;have⟨hl,hdr⟩:=HDR.o;rw[hl]at Wo Wx⊢;have⟨M,hM⟩:=aD ((gB F es).length);have HST:=au (tA ht1 ht2);rw[hl]at L;have HH:=au (show∀wr,ai y3 y3 wr->∀k,k<M->∃(got:Int) (b1 o1 b2 o2:Nat) (s1:Option Addr) (n1:Nat) (k1:Nat) (s2:Option Addr) (n2 k2:Nat) (l1:Option Addr) (m1 j1:Nat) (l2:Option Addr) (m2 j2:Nat),pa=some ⟨b1,o1,none⟩/\ra=some ⟨b2,o2,none⟩/\b1<wr/\b2<wr/\
     (wr.cell? ⟨b1,o1+k*12+9,none⟩=some (av s1 n1 k1)/\wr.cell? ⟨b1,o1+k*12+10,none⟩=(got:Int)/\wr.cell? ⟨b1,o1+k*12+11,none⟩=some (av l1 m1 j1))/\
     (wr.cell? ⟨b2,o2+k*12+9,none⟩=some (av s2 n2 k2)/\wr.cell? ⟨b2,o2+k*12+10,none⟩=(got:Int)/\wr.cell? ⟨b2,o2+k*12+11,none⟩=some (av l2 m2 j2))/\
     (∀z,ai wr wr z->aj prog 26 #[av s1 n1 k1,av s2 n2 k2] z λe w'=>e=ax (aw true)/\ai z z w')/\
     (∀z,ai wr wr z->aj prog 27 #[av l1 m1 j1,av l2 m2 j2] z λe w'=>e=ax (aw true)/\ai z z w')fromλwr f k hk=>by
     have hk1:k<(gB F es).length:=by omega
     have hk2:k<(gB F (es.map (fe a))).length:=by omega
     have⟨b1,o1,c1,s1,n1,k1,l1,m1,j1,e1,g1,f1,x1,z1⟩:=zP (hr1.below f) hk1;have⟨b2,o2,c2,s2,n2,k2,l2,m2,j2,e2,g2,f2,x2,z2⟩:=zP (L.below f) hk2;have⟨d1,d2,d3⟩:=hdr k hk2 hk1;rw[d1]at x2;rw[d2]at z2;rw[d3]at f2;simp only[bG]at e1 e2;obtain⟨rfl,_⟩:=e1;obtain⟨rfl,_⟩:=e2;exact⟨_,b1,o1,b2,o2,s1,n1,k1,s2,n2,k2,l1,m1,j1,l2,m2,j2,rfl,rfl,g1,g2,⟨f1 9 _ rfl,f1 10 _ rfl,f1 11 _ rfl⟩,⟨f2 9 _ rfl,f2 10 _ rfl,f2 11 _ rfl⟩,λz Z=>Br (x1.below Z) (x2.below Z),λz Z=>E7 (z1.below Z) (z2.below Z)⟩)
    have HB3:=au hb3;rw[<-hM]at pl1 Yn Wo Wx⊢;generalize Bm F=nn at*;clear h0 h1 h2 h3 h4 h5 h6 h7 h8 h9 J K ql ht1 ht2 hr1 L hy3 hb3 hl hdr hM;go_wp2_with fail
    refine HST.m ?_;rintro e y4 ⟨rfl,hy4⟩;have⟨Nx,HA4⟩:=aK hy4 (show∀z,ai y4 y4 z->aj prog 14 #[] z λe z=>e=ax (aw true)/\Q (ax (aw true)) z fromλz Z=>CA.o z (HB3.o.trans ((hy4.trans (Z.mono hy4.size)).mono HB3.o.size)));clear hy4;go_wp2;go_loopw [16] (λi wr=>∃k:Nat,k<=M/\i=an ar k/\ai y4 y4 wr) (λi _=>M-(intOf i).toNat)
    case atStart=>exact⟨0,bz _,rfl,aO _ _⟩
    case round=>
     obtain⟨k,hk,rfl,d⟩:=hrel;by_cases hlt:k<M
     .obtain⟨got,b1,o1,b2,o2,s1,n1,k1,s2,n2,k2,l1,m1,j1,l2,m2,j2,rfl,rfl,g1,g2,⟨p9,p10,p11⟩,⟨r9,Xm,TX⟩,hs,hi⟩:=HH.o wr (Nx.o.trans (d.mono Nx.o.size)) k hlt
      have q1:(0:Int)<=(k:Int):=by omega
      have q2:(k:Int)<(M:Int):=by omega
      have⟨HB,HS,HI⟩:=aX d hs hi;clear hs hi d;go_upto_region 19 with fail
      refine cD (by kernel_rfl) (by kernel_rfl) ?_
      repeat (go_big_quiet_step (first|(go_at_call 26;exact cH (HS.o _ (bX _ _)))|(go_at_call 27;exact cH (HI.o _ (bX _ _)))|fail))
      refine eV ?_;rintro _ ⟨u,rfl⟩;have HX:=au (gR HB.o (aP _) u);go_wp2;go_roundw
      case rel=>exact⟨k+1,by omega,by go_num,HX.o⟩
      case measure=>simp[intOf];omega
     .obtain rfl:k=M:=by omega
      have HE:=au (HA4.o wr d);clear d;go_wp2_with fail
      refine HE.m ?_;rintro e y5 ⟨rfl,Ez⟩;have HE5:=au Ez;clear Ez;go_wp2;exact HE5.o
open Go.ChangeShapes Go.WideShapes Go.ChangeAt
def x9(z:Os)(b:z.Started)(H:Type)(enc:TypeId×ah->H):
 ReturnsInHanded {} Tryz.checked z 6 .any (Rows.topDrawnSpec.pre6 enc prog Tryz.f6 Rows.topDrawnRow.domain false) (Rows.topDrawnSpec.post enc prog Tryz.f6 false true false false):=by
 refine returnsInHanded_of_change (C:=Tryz.checked) Gl b (by kernel_rfl) func6
  (ChangeSpec.witness6 (enc:=enc) (C:=Tryz.checked) false ⟨#[],#[aG #[(),(),an ar 0,an ar 0,an ar 0,an ar 0,an ar 0,an ar 0,an ar 0,an ar 0,an ar 0,an ar 0],(),an ar 0],[]⟩ 8 (by kernel_rfl) (by kernel_rfl) (by kernel_rfl) (by kernel_rfl)) ?_
 intro W base args N gs g c A _ _;have a:∀(j:Nat) t v,Tryz.f6.params[j]? =some t->args[j]? =some v->Value.okWide prog W .any base t v:=c
 have i:=A;obtain⟨p,q,sr,O,rfl,_,_⟩:=A;have B:DataW.TrodAll enc prog W 0 (λ_=>true) true Tryz.f6.params.toList args.toList N p:=sr;rw[Tryz.params6]at B a;obtain⟨E,P,d0,Q,T,q0,k,rfl,rfl,F,U⟩:=trodAll_cons B;obtain⟨l,V,d1,X,Y,q1,rfl,rfl,rfl,G,Z⟩:=trodAll_cons U;obtain⟨I,vs2,d2,ds2,p2,q2,rfl,rfl,rfl,J,r2⟩:=trodAll_cons Z;obtain⟨rfl,rfl,rfl⟩:=trodAll_nil r2;obtain rfl:args= #[E,l,I]:=by cases args;simp_all
 obtain⟨rfl,rfl⟩:=trodVars_none O;have K:=F;have n:∀x∈T,x.block<W.heap.size:=by obtain⟨m,f⟩:=K;exact DataW.trod_lt m _ _ _ f
 obtain⟨c0,rfl,o,wc0,jc0⟩:=gW (a 0 25 E rfl rfl) F;have L:=G;have r:∀x∈Y,x.block<W.heap.size:=by obtain⟨m,f⟩:=L;exact DataW.trod_lt m _ _ _ f
 have⟨s,u,w⟩:=fN (a 1 26 l rfl rfl) G;have M:=J;have y:∀x∈p2,x.block<W.heap.size:=by obtain⟨m,f⟩:=M;exact DataW.trod_lt m _ _ _ f
 obtain⟨a2,rfl,dd2,_,b2⟩:=open_int underlying3 (a 2 3 I rfl rfl) J;clear sr c;refine(ab4 c0 l s a2 W o u w).mono λe W' ⟨he,d⟩=> ?_
 subst he;exact⟨_,rfl,_,_,_,[],_,[],i,trodAll_mk1 (shut_bool underlying4 _),(trodAll_cons_mk (Below.trod lX (by kernel_rfl) (of_decide_eq_true (by kernel_rfl)) K d n) (trodAll_cons_mk (Below.trod lX (by kernel_rfl) (of_decide_eq_true (by kernel_rfl)) L d r) (trodAll_cons_mk (Below.trod lX (by kernel_rfl) (of_decide_eq_true (by kernel_rfl)) M d y) trodAll_mk0))),rfl,d.frame _,λh=>by cases h⟩
theorem V1:Rows.TopDrawnSaid:=
 OpenClaim.holds_of_wide 6 Tryz.f6 rfl rfl rfl rfl rfl rfl rfl ⟨rfl,rfl,rfl,rfl,rfl⟩ rfl rfl rfl rfl rfl (by kernel_rfl) func6 Bv
  (of_decide_eq_true (by kernel_rfl)) (by unfold Func.isWrapper;rw[aC (of_decide_eq_false (by kernel_rfl))];exact⟨rfl,rfl⟩)
  (λb a H enc _=>x9 b a H enc)
end Go.Proofs.YtjpnlfpompnpkaaGreat
