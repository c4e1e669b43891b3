import Derived.Laws.Closers25b
import Derived.Test.YtjpnlfpompnpkaaGreatP08
namespace Go.Proofs.YtjpnlfpompnpkaaGreat
open Go.RowKit Go.Proofs.Tryz
open Go.Value renaming int->an,slice->av,bool->aw,string->aA,tuple->aM,pointer->aL,agg->aG
open Go.IntKind renaming i64->ar
open Go.Ending renaming returned->ax
open Go.Obj renaming cells->aB
open Go renaming World->ae,Value->ah,Calls->aj,Ending->ak
open Go.RowKit renaming Below->ai
set_option maxRecDepth 100000
set_option linter.all false
set_option maxHeartbeats 2000000
open Go.ChangeMaps mX
def JS{l:List UInt8}{n:Nat}(c:0<=iX l)(d:iX l<=n):l.length<=4*n:=by
 unfold iX at c d;cases hr:kq l with
 |none=>rw[hr]at c;simp at c
 |some b=>
  rw[hr]at d;simp only at d;have e:=(zT hr).2;rw[e];have:∀b:List Nat,(b.flatMap enc).length<=4*b.length:=λb=>by
   induction b with
   |nil=>simp
   |cons a l f=>rw[eI,bF,cG];have:=(Ov a).2;omega
  have:=this b;omega
def M9{s:ByteArray}(h:iA s.data.toList=true):s.size<=64:=by
 simp only[iA,cV,ei]at h;exact JS (n:=16) h.1 h.2
def nh{s:ByteArray}(h:mQ s.data.toList=true):s.size<=48:=by
 simp only[mQ,cV,ei]at h;exact JS (n:=12) (by omega) h.2
def AK{xs:List Int}(h:∀x∈xs,0<=x/\x<=2147483647):∀x∈xs,0<=x/\x<9223372036854775808:=λx a=>by have:=h x a;omega
def M_{w y:ae}{g:Option Nat}{v:ah}{bs:List Int}(h:Seg w 5 1 g v (lJ bs) bs.length)(a:aQ ([]:List Nat) w y):dc y .u8 v bs:=gC (h.bH a (by simp))
def rP(m:cd)(w:ae)(e:ak)(w':ae):Prop:=∃v,e=ax (aM #[v,an ar (if m.may then 0 else 2)])/\(m.may=true->dI w w' v m.frame)/\ai w w w'
def AL{a:cf}(h:nG a=true):(∀x∈[a.slot,a.query,a.aR,a.seq,a.aW],0<=x/\x<9223372036854775808)/\a.text.size<=64/\a.word.size<=48/\0<=a.k/\a.k<=4/\1<=a.batch/\a.batch<=5/\0<=a.jk/\a.jk<=4:=by
 unfold nG at h;simp only[cV,ei]at h;obtain⟨b,f,g,i,j,l,m,n⟩:=h;have o:0<=a.slot/\a.slot<4/\0<=a.aR/\a.aR<6:=by simpa[kh]using f
 have c:=JP g;have d:a.word.size<=48/\0<=a.jk/\a.jk<=4:=by
  unfold ML at b;split at b
  .simp only[cV,beq_iff_eq,List.isEmpty_iff]at b
   have:a.word.size=a.word.data.toList.length:=rfl;rw[b.2,dx]at this;omega
  .simp only[nF,cV,ei]at b
   exact⟨nh b.2,b.1⟩
 refine⟨λx e=> ?_,M9 i,d.1,j,l,m,n,d.2⟩;simp only[bQ,ez,or_false]at e;obtain rfl|rfl|rfl|rfl|rfl:=e
 .omega
 .exact c _ (by simp)
 .omega
 .exact c _ (by simp)
 .exact c _ (by simp)
def FT{r:lr}(h:nJ r=true):(∀x∈[r.slot,r.query,r.aR,r.seq,r.worker,r.aW],0<=x/\x<9223372036854775808)/\r.items.length<=5/\∀x∈r.items,0<=x.1/\x.1<=4/\x.2.size<=48:=by
 unfold nJ at h;simp only[cV,ei]at h;obtain⟨c,d,e,f,g⟩:=h;have i:0<=r.slot/\r.slot<4/\0<=r.aR/\r.aR<6:=by simpa[kh]using e
 have b:=JP f;have j:1<=r.worker/\r.worker<=5:=by simpa[jb]using g
 refine⟨λx a=> ?_,d,λx a=> ?_⟩
 .simp only[bQ,ez,or_false]at a
  obtain rfl|rfl|rfl|rfl|rfl|rfl:=a
  .omega
  .exact b _ (by simp)
  .omega
  .exact b _ (by simp)
  .omega
  .exact b _ (by simp)
 .simp only[sO,cV]at c
  have:=List.all_eq_true.1 c.1 x a;simp only[nF,cV,ei]at this;exact⟨this.1.1,this.1.2,nh this.2⟩
def Eh(l:List aY)(h:∀x∈l,0<=x.1/\x.1<=4/\x.2.size<=48):(l.flatMap qZ).length<=51*l.length:=by
 induction l with
 |nil=>simp
 |cons a l b=>
  have d:=(h a (by simp)).2.2;have e:=b λx c=>h x (by simp[c])
  rw[eI,bF,cG];have:(qZ a).length=3+a.2.size:=by simp[qZ,fY,oX];omega
  omega
def Ue(m:cd)(h:m.may=true):∀{k:Int},([0,0,k]++m.body).length<=10000:=by
 intro k;cases m with
 |eu a b=>simp[cd.body,gS]
 |grant a b c=>simp[cd.body,gS]
 |stop a b=>simp[cd.body,gS]
 |ask a=>
  have:=AL (a:=a) h;simp[cd.body,gS,fY,vm,oX];omega
 |dj r=>
  have⟨_,e,d⟩:=FT (r:=r) h;have:=Eh _ d;simp only[cd.body,bF,gS,fY,vm,cG,dx];omega
def XD(m:cd):1<=m.kind/\m.kind<=5:=by cases m<;>simp[cd.kind]
def XE(m:cd)(iv:ah)(w:ae)(E:∃a n c,iv=av a n c)(hr:m.rd w iv):aj prog 95 #[m.val iv] w (rP m w):=by
 have HM:=au (JJ m iv w E hr);cases hm:m.may
 .rw[hm]at HM
  have HR:=au (show∀y,ai w w y->rP m w (ax (aM #[(),an ar 2])) y fromλy G=>⟨_,by rw[hm];rfl,by rw[hm];simp,G⟩);generalize rP m w=Q at*;generalize m.val iv=mv at*;clear hr E hm;go_in;go_wp2_with fail
  refine aN HM.o ?_;intro y G;have Y:=au (HR.o y G);clear G;go_wp2;exact Y.o
 .rw[hm]at HM
  have⟨k0,k1⟩:=XD m;have HKP:=au (λy=>adq m iv y E);have⟨mv,hmv⟩:=aD (m.val iv);rw[<-hmv]at HM HKP⊢;have⟨k,hk⟩:=aD m.kind;rw[<-hk]at HKP k0 k1;have⟨Z,HKK,HR,P,qH,HV⟩:=eC hmv hk (show∀y v,dI w y v (JN ([0,0,k]++m.body))->ai w w y->rP m w (ax (aM #[v,an ar 0])) y fromλy v h1 G=>⟨v,by rw[hm];rfl,λ_=>by unfold cd.frame;rw[<-hk];exact h1,G⟩) hm hr E;generalize rP m w=Q at*;clear hr E hm hmv hk;go_in;go_wp2_with fail
  refine aN HM.o ?_;intro y G;have HY:=au G;clear G;go_wp2_with fail
  refine aN (HKP.o y) ?_;intro z I;have HZ:=au (HY.o.trans (I.mono HY.o.size));clear I;have⟨u,hu⟩:=aD ((z.alloc (aB #[.int .u8 0,.int .u8 0,.int .u8 k] 5 (0,0))).alloc (aB #[av (some ⟨z,0,none⟩) 3 3] 233 (0,0)));have⟨b1,b2,bg,bl⟩:=rZ hu;have hW:jO w u (z.heap.size+1) [0,0,k]:=⟨some z,_,b2,Nat.le_succ_of_le HZ.o.size,λb hb=>by have:=HZ.o.size;simp at hb;omega,rfl,.inr ⟨_,0,3,_,rfl,rfl,b1,by simp,by simp[maxLen],by simp,λj hj=>by
   have:([0,0,k]:List Int).length*1=3:=rfl;rw[this]at hj
   match j,hj with
   |0,_=>rfl
   |1,_=>rfl
   |2,_=>rfl⟩⟩
  have⟨HW,HU,HG⟩:=aX hW hu (HZ.o.trans (bg.aJ.mono HZ.o.size));have t:w.heap.size<=z.heap.size+1:=Nat.le_succ_of_le HZ.o.size;clear hu b1 b2 bg hW
  go_upto_block 0 with fail
  rw[<-HU.o];have⟨p,hp⟩:=aD (z.heap.size+1);rw[<-hp]at HW bl t⊢;clear hp;go_cut [] (λwr=>jO w wr p ([0,0,k]++m.body)/\aQ [p] u wr)
  case first=>
   cases m with
   |eu a b=>
    have e:mv=_:=Z.o;simp only[cd.val]at e;subst e;have O:∀x∈[a,b],0<=x/\x<9223372036854775808:=AK (by have:=P.o;simp[cd.may,jb,kh,me,OR]at this;simp;omega)
    have⟨T,B⟩:=aK (λ(o:Obj) q hq=>ub (HW.o.below ((aO _ _).alloc (aP _) o)) (by simp) [a,b] O (by simp) (q:=q) (n:=2) hq rfl _ rfl) (λ(o:Obj)=>((aQ.refl [p] u).alloc o));clear O;go_wp2_with fail
    refine aN (T.o _ _ (by simp)) ?_;rintro J ⟨H,l⟩;have Y:=au (show jO w J p ([0,0,k]++cd.body (cd.eu a b))/\aQ [p] u J from⟨H,(B.o _).trans l⟩);clear H l;go_wp2;go_meet;exact Y.o
   |grant a b c=>
    have e:mv=_:=Z.o;simp only[cd.val]at e;subst e;have O:∀x∈[a,b,c],0<=x/\x<9223372036854775808:=AK (by have:=P.o;simp[cd.may,jb,kh,me,OR]at this;simp;omega)
    have⟨T,B⟩:=aK (λ(o:Obj) q hq=>ub (HW.o.below ((aO _ _).alloc (aP _) o)) (by simp) [a,b,c] O (by simp) (q:=q) (n:=3) hq rfl _ rfl) (λ(o:Obj)=>((aQ.refl [p] u).alloc o));clear O;go_wp2_with fail
    refine aN (T.o _ _ (by simp)) ?_;rintro J ⟨H,l⟩;have Y:=au (show jO w J p ([0,0,k]++cd.body (cd.grant a b c))/\aQ [p] u J from⟨H,(B.o _).trans l⟩);clear H l;go_wp2;go_meet;exact Y.o
   |stop a b=>
    have e:mv=_:=Z.o;simp only[cd.val]at e;subst e;have O:∀x∈[a,b],0<=x/\x<9223372036854775808:=AK (by have:=P.o;simp[cd.may,jb,kh,me,OR]at this;simp;omega)
    have⟨T,B⟩:=aK (λ(o:Obj) q hq=>ub (HW.o.below ((aO _ _).alloc (aP _) o)) (by simp) [a,b] O (by simp) (q:=q) (n:=2) hq rfl _ rfl) (λ(o:Obj)=>((aQ.refl [p] u).alloc o));clear O;go_wp2_with fail
    refine aN (T.o _ _ (by simp)) ?_;rintro J ⟨H,l⟩;have Y:=au (show jO w J p ([0,0,k]++cd.body (cd.stop a b))/\aQ [p] u J from⟨H,(B.o _).trans l⟩);clear H l;go_wp2;go_meet;exact Y.o
   |ask a=>
    have e:mv=_:=Z.o;simp only[cd.val]at e;subst e;have⟨O,t1,t2,k0',k1',b0,b1,d0,d1⟩:=AL (a:=a) P.o;have⟨T,B,HBO⟩:=aX (λ(o:Obj) q hq=>ub (HW.o.below ((aO _ _).alloc (aP _) o)) (by simp) [a.slot,a.query,a.aR,a.seq,a.aW] O (by simp) (q:=q) (n:=5) hq rfl _ rfl) (λ(o:Obj)=>((aQ.refl [p] u).alloc o)) (show cd.body (.ask a)=o6 [a.slot,a.query,a.aR,a.seq,a.aW]++dA a.text.size 2++qU a.text++dA a.k 1++dA a.batch 1++sA a.first++dA a.jk 1++dA a.word.size 2++qU a.word from rfl);generalize cd.body (.ask a)=BO at*;obtain⟨slot,K,L,seq,M,text,kk,batch,first,jk,word⟩:=a;simp only at T HBO t1 t2 k0' k1' b0 b1 d0 d1⊢;obtain⟨X0,C⟩:∃X,X=[0,0,k]++o6 [slot,K,L,seq,M]:=⟨_,rfl⟩
    have hl0:X0.length<=23:=by rw[C];simp[gS]
    rw[<-C]at T;have HX0:=au C;clear O C;go_wp2_with fail
    refine aN (T.o _ _ (by simp)) ?_;rintro J ⟨⟨g,v,h1,hBp,h2,h4⟩,l⟩;have s:J.heap[u.heap.size]? =_:=l.at (a_ u _) (by simp;omega);have⟨se,H1,ue⟩:=aX ((B.o _).trans l) h1 s;have U:=az s;have HT:=au (λ(z:ae) (I:aQ ([]:List Nat) J z)=>Jq v X0 text z (M_ h4 I) (by omega) (by omega));obtain⟨va,vc,rfl,_⟩:=Seg.len h4;have c1:=aF h1 0 rfl;have c5:=aF s 5 rfl;have⟨X1,hX1⟩:=aD (X0++dA text.size 2++qU text);have hl1:X1.length<=100:=by rw[hX1];simp[fY,oX];omega
    rw[<-hX1]at HT;have HX1:=au hX1;clear h1 h4 h2 l s hX1;go_upto_region 14 with fail
    go_region_law (first
     |(refine dm (by rfl) 118 func118 (by kernel_rfl) (by kernel_rfl) (by rfl) _ (by kernel_rfl) (HT.o _ (by first|exact aQ.refl _ _|exact(aQ.refl _ _).drew)) ?_;rintro e z ⟨v',rfl,E,I⟩;refine⟨_,rfl,?_⟩;obtain⟨a2,e2,rfl,_⟩:=Own.len E;have A:ai J J z:=(by first|exact I|exact((aO _ _).drew).trans I);have hf:=jO.put hBp H1.o A E;have Zk:=au hf.1;have Wm:=au hf.2;have t:=(ch A).at H1.o (by simp);have z1:z.cell? p=some (av va X0.length vc):=(aF t _ rfl);have zf:z.frozen? ⟨p,0,none⟩=false:=(bB t _);have zl:=az t;clear I A E hf t)
     |fail)
    all_goals
     have HW1:=Zk;have f:=Wm.o.at ue.o (by simp;omega);have⟨qS,HS⟩:=aK (se.o.trans Wm.o) (vj Zk.o (by omega) kk k0' (by omega));generalize World.setCell _ _ _=y2 at*;have c6:=aF f 6 rfl;have hb2:=az f;have Uf:=au f;clear f c1 c5 z1 zf zl;go_wp2_with fail
     refine aN HS.o ?_;rintro y3 ⟨hw3,V⟩;have f:=V.at Uf.o (by simp;omega);have⟨HC3,HS2⟩:=aK (qS.o.trans V) (vj hw3 (by simp[fY];omega) batch (by omega) (by omega));have c7:=aF f 7 rfl;have hb3:=az f;have aij:=au f;clear hw3 V f c6;go_wp2_with fail
     refine aN HS2.o ?_;rintro y4 ⟨hw4,hc4⟩;have f:=hc4.at aij.o (by simp;omega);have⟨HC4,FU⟩:=aK (HC3.o.trans hc4) (T8 hw4 (by simp[fY];omega) first);have c8:=aF f 8 rfl;have hb4:=az f;have aik:=au f;clear hw4 hc4 f c7;go_wp2_with fail
     refine aN FU.o ?_;rintro y5 ⟨hw5,Wn⟩;have f:=Wn.at aik.o (by simp;omega);have⟨HC5,HS4⟩:=aK (HC4.o.trans Wn) (T9 hw5 (by simp only[bF,fY];have:=vm first;unfold sA at this;omega) jk word d0 (by omega) (by omega));have c9:=aF f 9 rfl;have c10:=aF f 10 rfl;have hb5:=az f;clear hw5 Wn f c8;go_wp2_with fail
     refine aN HS4.o ?_;rintro y6 ⟨N,hc6⟩;have Y:=au (show jO w y6 p ([0,0,k]++BO)/\aQ [p] u y6 from⟨by rw[HBO.o];simp only[<-h_];rw[<-HX0.o];simp only[h_]at N⊢;simpa[HX1.o,sA]using N,HC5.o.trans hc6⟩);clear N hc6;go_wp2;go_meet;exact Y.o
   |dj r=>
    have e:mv=_:=Z.o;simp only[cd.val]at e;subst e;have⟨O,hl5,hit⟩:=FT (r:=r) P.o;have⟨HRI,T,B,HBO⟩:=c_ (λ(y:ae) (G:ai w w y)=>qH.o.1.below G) (λ(o:Obj) q hq=>ub (HW.o.below ((aO _ _).alloc (aP _) o)) (by simp) [r.slot,r.query,r.aR,r.seq,r.worker,r.aW] O (by simp) (q:=q) (n:=6) hq rfl _ rfl) (λ(o:Obj)=>((aQ.refl [p] u).alloc o)) (show cd.body (.dj r)=o6 [r.slot,r.query,r.aR,r.seq,r.worker,r.aW]++dA r.items.length 1++r.items.flatMap qZ++sA r.fin from rfl);generalize cd.body (.dj r)=BO at*;obtain⟨slot,K,L,seq,worker,M,d,fin⟩:=r;simp only at T HBO HRI hl5 hit⊢;obtain⟨X0,C⟩:∃X,X=[0,0,k]++o6 [slot,K,L,seq,worker,M]:=⟨_,rfl⟩
    have hl0:X0.length<=27:=by rw[C];simp[gS]
    rw[<-C]at T;have HX0:=au C;have⟨ia,ic,hvv,_⟩:=HRI.o w (aO _ _);subst hvv;have HIT:=au hit;clear O C hit;go_wp2_with fail
    refine aN (T.o _ _ (by simp)) ?_;rintro J ⟨hw1,l⟩;have s:J.heap[u.heap.size]? =_:=l.at (a_ u _) (by simp;omega);have⟨se,ue⟩:=aK ((B.o _).trans l) s;have U:=az s;have HS:=au (vj hw1 (by omega) d.length (by omega) (by omega));have c6:=aF s 6 rfl;clear hw1 l s;go_wp2_with fail
    refine aN HS.o ?_;rintro y2 ⟨hw2,hc2⟩;have s:=hc2.at ue.o (by simp;omega);have⟨qS,ain⟩:=aK (se.o.trans hc2) s;have d6:=aF s 6 rfl;have⟨F,hF⟩:= @aD (Nat->List Int) (λj=>X0++dA d.length 1++(d.take j).flatMap qZ);have ad7:jO w y2 p (F 0):=by
     have e:F 0=X0++dA d.length 1:=by rw[hF];simp
     rw[e];exact hw2
    have TI:=au (show∀j,j<d.length->F (j+1)=F j++dA (d.getD j ()).1 1++dA (d.getD j ()).2.size 2++qU (d.getD j ()).2 fromλj hj=>by
     rw[hF];simp only;rw[List.take_add_one,fQ];simp[aU,hj,qZ])
    have W3:=au (show F d.length=X0++dA d.length 1++d.flatMap qZ by rw[hF];simp only;rw[fR]);have I1:=au (show∀j,(F j).length<=1000 fromλj=>by
     rw[hF];have:=Eh (d.take j) (λx hx=>HIT.o x (List.mem_of_mem_take hx));have h2:(d.take j).length<=d.length:=List.length_take_le' _ _;simp only[bF,fY];omega)
    have HW2:=au ad7;clear hw2 hc2 s c6 hF ad7 U;go_wp2_with fail
    go_loopw [112] (λi wr=>∃j:Nat,i=an ar j/\j<=d.length/\jO w wr p (F j)/\aQ [p] y2 wr) (λi _=>d.length-(intOf i).toNat)
    case atStart=>exact⟨0,rfl,bz _,HW2.o,aQ.refl _ _⟩
    case round=>
     obtain⟨j,rfl,hj,hwj,W⟩:=hrel;by_cases hlt:j<d.length
     .obtain⟨b,off,rfl,U,hcl⟩:=(HRI.o wr (HG.o.trans ((qS.o.trans W).below (by simpa using t) HG.o.size))).slot j hlt
      have r0:=hcl 0 _ rfl;have r1:=hcl 1 _ rfl;simp only[bM]at r0;have⟨m0,m1,m2⟩:=HIT.o _ (bh d j hlt);have HFJ:=au (TI.o j hlt);have⟨x,hx⟩:=aD (d.getD j ());rw[<-hx]at r0 r1 m0 m1 m2 HFJ;obtain⟨x0,x1⟩:=x;simp only at r0 r1 m0 m1 m2 HFJ;have⟨u2,hu2⟩:=aD (wr.alloc (aB #[x0,aA x1] 83 (0,0)));have⟨g1,gg,gl⟩:=dt hu2;have⟨e0,e1⟩:=dk g1;have HIW:=au (T9 (hwj.below gg.aJ) (by have:=I1.o j;omega) x0 x1 m0 (by omega) (by omega));rw[<-HFJ.o]at HIW;have⟨HU2,HCJ⟩:=aK hu2 (W.trans (gg.mono (by simp)));have q1:(0:Int)<=(j:Int):=by omega
      have q2:(j:Int)<(d.length:Int):=by omega
      clear hcl hx hu2 g1 gg hwj W;go_upto_region 26 with fail
      rw[<-HU2.o];clear r0 r1;go_wp2_with fail
      refine aN HIW.o ?_;rintro y3 ⟨hw3,V⟩;have⟨HW3,HC3⟩:=aK hw3 (HCJ.o.trans V);clear hw3 V e0 e1;go_wp2;go_roundw
      case rel=>exact⟨j+1,by simp,by omega,HW3.o,HC3.o⟩
      case measure=>simp[intOf];omega
     .obtain rfl:j=d.length:=by omega
      have FU:=au (T8 hwj (by have:=I1.o d.length;omega) fin);rw[W3.o]at FU;have HCJ:=au (qS.o.trans W);have s:=W.at ain.o (by simp;omega);have d7:=aF s 7 rfl;clear hwj W s d6;go_wp2_with fail
      refine aN FU.o ?_;rintro y6 ⟨N,hc6⟩;have Y:=au (show jO w y6 p ([0,0,k]++BO)/\aQ [p] u y6 from⟨by rw[HBO.o];simp only[<-h_];rw[<-HX0.o];simp only[h_]at N⊢;exact N,HCJ.o.trans hc6⟩);clear N hc6;go_wp2;go_meet;exact Y.o
  case rest=>
   obtain⟨⟨g,v,h1,hBp,h2,h4⟩,hc⟩:=hcut;have U:2<=([0,0,k]++m.body).length/\([0,0,k]++m.body).length<=10000:=⟨by simp,Ue m P.o⟩;generalize [0,0,k]++m.body=bs at*;obtain⟨hb2,U⟩:=U;have Zl:=au (HG.o.trans (hc.below (by simpa using t) HG.o.size));obtain⟨va,vc,rfl,_⟩:=Seg.len h4;have c1:=aF h1 0 rfl;have q1:IntKind.i64.wrap ((bs.length:Int)+4)=(bs.length:Int)+4:=IntWalk.i64_in _ (by omega);have⟨aip,HCP,H1⟩:=aX (λ(y:ae)=>CE () [] ((bs.length:Int)+4) 2 y (uQ y .u8) (by simp) (by decide) (by decide) (by omega) (by omega)) (λ(y:ae) (a:Option Addr) (c:Nat) G E=>XA (y:=y) (a:=a) (c:=c) h1 hBp h2 h4 G Zl.o.size E hb2) h1;have hsm:=λ(y:ae) (v:ah) (h:dc y .u8 v (nY bs))=>WZ v (nY bs) y h
   have hs0:0<=l_ (nY bs)/\l_ (nY bs)<=4294967295:=⟨bits_lo_u32 .xor _ _,bits_hi_u32 .xor _ _⟩;have hpt:=λ(y:ae) (v:ah) (h:dc y .u8 v (nY bs))=>CE v (nY bs) (l_ (nY bs)) 4 y h (by rw[JO hb2];omega) (by decide) (by decide) (by omega) (by omega)
   have hse:nY bs++dA (l_ (nY bs)) 4=JN bs:=rfl;rw[hse]at hpt;have hrd:∀y g v,Seg y 5 1 g v (lJ (nY bs)) bs.length->dc y .u8 v (nY bs):=λy g v h=>gC (by rw[JO hb2];exact h)
   have⟨ad8,XF,HPT⟩:=aX hrd hsm hpt;generalize l_ (nY bs)=S at*;generalize JN bs=F at*;generalize nY bs=LF at*;obtain⟨s0,s1⟩:=hs0;have qs:IntKind.i64.wrap S=S:=IntWalk.i64_in _ (by omega);clear h1 h2 h4 hc hsm hpt hse hrd;go_upto_region 32 with fail
   go_region_law (first
    |(refine dm (by rfl) 122 func122 (by kernel_rfl) (by kernel_rfl) (by rfl) _ (by kernel_rfl) (aip.o _) ?_;rintro e zz ⟨v',rfl,E,I⟩;refine⟨_,rfl,?_⟩;obtain⟨a2,e2,rfl,_⟩:=Own.len E;have A:ai wc wc zz:=(by first|exact I|exact((aO _ _).drew).trans I);have⟨w2,hrun,k1,k2,k3⟩:=HCP.o zz a2 e2 A E;have gN:=au hrun;have K1:=au k1;have K2:=au k2;have K3:=au k3;have t:=(ch A).at H1.o (by simp);have z1:zz.cell? p=some (av va bs.length vc):=(aF t _ rfl);have zl:=az t;clear I A E t hrun k1 k2 k3)
    |(refine QF (by rfl) (.tmp 137) (.tmp 144) 188 188 (by rfl) _ _ _ w2 (by rfl) (by rfl) (gN.o _) ?_)
    |fail)
   all_goals
    have K4:=au (Zl.o.trans K3.o);have k1:=K1.o;have J:=aF k1 0 rfl;have yl:=az k1;have⟨HS2,HP2⟩:=aK (λ(y:ae) (G:aQ ([]:List Nat) w2 y)=>XF.o y _ (ad8.o y _ _ (K2.o.bH G (by simp)))) (λ(y:ae) (G:aQ ([]:List Nat) w2 y)=>HPT.o y _ (ad8.o y _ _ (K2.o.bH G (by simp))));clear k1 q1;go_upto_region 33 with fail
    go_region_law (first
     |(refine dm (by rfl) 123 func123 (by kernel_rfl) (by kernel_rfl) (by rfl) _ (by kernel_rfl) (HS2.o _ (by first|exact aQ.refl _ _|exact(aQ.refl _ _).drew)) ?_;rintro e zz ⟨rfl,rfl⟩;refine⟨_,rfl,?_⟩)
     |(refine dm (by rfl) 122 func122 (by kernel_rfl) (by kernel_rfl) (by rfl) _ (by kernel_rfl) (HP2.o _ (by first|exact aQ.refl _ _|exact(aQ.refl _ _).drew)) ?_;rintro e zz ⟨v',rfl,E,I⟩;refine⟨_,rfl,?_⟩;have A:ai w2 w2 zz:=(by first|exact I|exact((aO _ _).drew).trans I);have HV2:=au E;have HZ2:=au (K4.o.trans (A.mono K4.o.size));clear I E A)
     |fail)
    all_goals
     have HQ:=au (HR.o _ _ (Own.mono HV2.o (by first|exact K4.o.size|exact bD K4.o.size (by simp))) HZ2.o);go_wp2;go_ret2;exact HQ.o
structure eD(w:ae)(p:Nat)(bs:List Int)(s:Nat×Bool):Prop where
 x:∃v,w.heap[p]? =some (aB #[v,an ar s.1,aw s.2] 256 (0,0))/\dc w .u8 v bs/\∀a n c,v=av (some a) n c->a.block<p
 ok:cQ bs
 len:bs.length<=1100
 le:s.1<=bs.length
variable{w:ae}{p:Nat}
def eD.lt{bs:List Int}{s:Nat×Bool}(h:eD w p bs s):p<w:=by
 obtain⟨⟨v,a,_⟩,_⟩:=h;exact az a
variable{w':ae}
def dc.bH{k:IntKind}{v:ah}{xs:List Int}{S:List Nat}(h:dc w k v xs)(f:aQ S w w')(j:∀a n c,v=av (some a) n c->a.block∉S):dc w' k v xs:=by
 obtain⟨a,d,rfl,l,m,o⟩:=h;refine⟨a,d,rfl,l,m,λi q=> ?_⟩;obtain⟨b,e,rfl,g,r⟩:=o i q;exact⟨b,e,rfl,bP g f.size,(cU (f.block b g (j _ _ _ rfl))).trans r⟩
def eD.below{bs:List Int}{s:Nat×Bool}(h:eD w p bs s)(a:ai w w w'):eD w' p bs s:=by
 obtain⟨⟨v,b,c,d⟩,e,f,g⟩:=h;exact⟨⟨v,(ch a).at b (by simp),c.below a,d⟩,e,f,g⟩
def eD.far{q:Nat}{bs:List Int}{s:Nat×Bool}(h:eD w p bs s)(b:aQ [q] w w')(l:p<q):eD w' p bs s:=by
 obtain⟨⟨v,f,g,d⟩,i,j,k⟩:=h;exact⟨⟨v,b.at f (by simp;omega),g.bH b (λa n c e=>by have:=d a n c e;simp;omega),d⟩,i,j,k⟩
def eW(bs:List Int)(sz:Nat)(s:Nat×Bool):Int×(Nat×Bool):=if s.1+sz<=bs.length then(oD bs s.1 sz,(s.1+sz,s.2))else(0,(s.1,true))
def AM(bs:List Int)(s:Nat×Bool):Bool×(Nat×Bool):=((eW bs 1 s).1==1,((eW bs 1 s).2.1,(eW bs 1 s).2.2||decide (1<(eW bs 1 s).1)))
def q_(bs:List Int)(s:Nat×Bool):ByteArray×(Nat×Bool):=match wU bs s.1 with
 |some (t,q)=>(t,(q,s.2))
 |none=>(ByteArray.empty,(s.1,true))
def qw(bs:List Int)(s:Nat×Bool):aY×(Nat×Bool):=(((eW bs 1 s).1,(q_ bs (eW bs 1 s).2).1),(q_ bs (eW bs 1 s).2).2)
def FV{bs:List Int}(h:cQ bs)(p sz:Nat)(b:sz<=4):0<=oD bs p sz/\oD bs p sz<4294967296:=
 MI _ (by rw[dw];omega) λx a=>h x (nu (List.mem_of_mem_take a))
def O8{bs:List Int}(h:cQ bs)(sz:Nat)(a:sz<=4)(s:Nat×Bool):0<=(eW bs sz s).1/\(eW bs sz s).1<4294967296:=by
 unfold eW;split
 .exact FV h _ _ a
 .exact⟨Int.le_refl 0,by show(0:Int)<_;decide⟩
def eD.set{y:ae}{bs:List Int}{v:ah}{s t:Nat×Bool}(h:w.heap[p]? =some (aB #[v,an ar s.1,aw s.2] 256 (0,0)))(g:dc w .u8 v bs)(b:∀a n c,v=av (some a) n c->a.block<p)(j:cQ bs)(k:bs.length<=1100)(d:aQ ([]:List Nat) w y)(i:Nat)(u:ah)
 (l:(#[v,an ar s.1,aw s.2]:Array ah).setIfInBounds i u= #[v,an ar t.1,aw t.2]) (m:t.1<=bs.length):eD (y.setCell ⟨p,i,none⟩ u) p bs t/\aQ [p] w (y.setCell ⟨p,i,none⟩ u):=by
 have f:aQ [p] w (y.setCell ⟨p,i,none⟩ u):=(d.mono (by simp)).trans ((aQ.refl [p] y).setCell _ (by simp) u);refine⟨⟨⟨v,?_,g.bH f (λa n c e=>by have:=b a n c e;simp;omega),b⟩,j,k,m⟩,f⟩;rw[<-l];exact aE (d.at h (by simp)) u
def Ei{bs:List Int}{s:Nat×Bool}(h:eD w p bs s)(sz:Nat)(x:1<=sz)(k:sz<=4):aj prog 155 #[p,(sz:Int)] w λe w'=>e=ax (an ar (eW bs sz s).1)/\eD w' p bs (eW bs sz s).2/\aQ [p] w w':=by
 obtain⟨⟨v,c,l,m⟩,g,z,d⟩:=h;obtain⟨a,f⟩:=s;simp only at c d;have j:=au (λn=>Qn v bs a sz (w.drewN n) (l.bH (bo w n) (by simp)) g x k (by omega));have⟨B,C,E⟩:=oN c;have F:=bB c 1;have G:=bB c 2;have b:=au (λ(y:ae) (A:aQ ([]:List Nat) w y) (t:Nat×Bool) (i:Nat) (u:ah) ht h6=>eD.set (s:=(a,f)) (t:=t) c l m g z A i u ht h6);unfold eW;obtain⟨H,I,rfl,_⟩:=l;by_cases q:a+sz<=bs.length
 .simp only[aI q]at j⊢
  have r:=au (λn=>b.o (w.drewN n) (bo w n) (a+sz,f) 1 ((a:Int)+(sz:Int):Int) (by simp) q);generalize oD bs a sz=N at*;clear c m g;go_in;go_wp2_with fail
  go_quiet ((go_at_call 128;exact de (j.o _)));go_wp2;go_ret;exact⟨rfl,r.o _⟩
 .simp only[aC q]at j⊢
  have r:=au (λn=>b.o (w.drewN n) (bo w n) (a,true) 2 (aw true) (by simp) d);clear c m g;go_in;go_wp2_with fail
  go_quiet ((go_at_call 128;exact de (j.o _)));go_wp2;go_ret;exact⟨rfl,r.o _⟩
def Ug{bs:List Int}{t:ByteArray}{q:Nat}(h:wU bs p=some (t,q)):q<=bs.length:=by
 unfold wU at h;split at h
 .rename_i a
  simp only[bA,Prod.mk.injEq]at h;omega
 .cases h
def Uh{bs:List Int}{s:Nat×Bool}(h:eD w p bs s):aj prog 156 #[p] w λe w'=>e=ax (aA (q_ bs s).1)/\eD w' p bs (q_ bs s).2/\aQ [p] w w':=by
 obtain⟨⟨v,c,k,l⟩,g,r,d⟩:=h;obtain⟨a,f⟩:=s;simp only at c d;have j:=au (λn=>adp v bs a (w.drewN n) (k.bH (bo w n) (by simp)) g (by omega));have⟨A,B,C⟩:=oN c;have E:=bB c 1;have F:=bB c 2;have b:=au (λ(y:ae) (x:aQ ([]:List Nat) w y) (t:Nat×Bool) (i:Nat) (u:ah) ht h6=>eD.set (s:=(a,f)) (t:=t) c k l g r x i u ht h6);unfold q_;obtain⟨G,H,rfl,_⟩:=k;cases hx:wU bs a with
 |some z=>
  obtain⟨t,q⟩:=z;simp only[hx]at j⊢;have m:=au (λn=>b.o (w.drewN n) (bo w n) (q,f) 1 (q:Int) (by simp) (Ug hx));clear c l g hx;go_in;go_wp2_with fail
  go_quiet ((go_at_call 176;exact de (j.o _)));go_wp2;go_ret;exact⟨rfl,m.o _⟩
 |none=>
  simp only[hx]at j⊢;have m:=au (λn=>b.o (w.drewN n) (bo w n) (a,true) 2 (aw true) (by simp) d);clear c l g hx;go_in;go_wp2_with fail
  go_quiet ((go_at_call 176;exact de (j.o _)));go_wp2;go_ret;exact⟨rfl,m.o _⟩
def Na{bs:List Int}{s:Nat×Bool}(h:eD w p bs s):aj prog 157 #[p] w λe w'=>e=ax (aw (AM bs s).1)/\eD w' p bs (AM bs s).2/\aQ [p] w w':=by
 have j:=au (Ei h 1 (by decide) (by decide));have k:=O8 h.ok 1 (by decide) s;unfold AM;generalize(eW bs 1 s)=r at*;obtain⟨n,c,d⟩:=r;simp only at j k⊢;clear h;obtain⟨A,B⟩:=k;go_in;go_wp2_with fail
 refine aN j.o ?_;rintro y ⟨⟨⟨v,f,l,m⟩,q,z,g⟩,u⟩;simp only at f g;have C:=aF f 2 rfl;have E:=bB f 2;have⟨a,x⟩:=aK (λ(b:Bool)=>eD.set (s:=(c,d)) (t:=(c,b)) f l m q z (aQ.refl _ _) 2 (aw b) (by simp) g) u;clear f l m q u;cases d
 .have i:=au (a.o (decide (1<n)))
  go_wp2;go_ret;exact⟨cA (by simp),by simpa using i.o.1,x.o.trans i.o.2⟩
 .have i:=au (a.o true)
  go_wp2;go_ret;exact⟨cA rfl,by simpa using i.o.1,x.o.trans i.o.2⟩
def Ui{bs:List Int}{s:Nat×Bool}(h:eD w p bs s):aj prog 158 #[p] w λe w'=>e=ax (aG #[an ar (qw bs s).1.1,aA (qw bs s).1.2])/\eD w' p bs (qw bs s).2/\aQ [p] w w':=by
 have k:=h.lt;have⟨u,l⟩:=aD (w.alloc (aB #[an ar 0,aA ⟨#[]⟩] 83 (0,0)));have⟨j,m,M⟩:=dt l;have⟨A,F,G,v⟩:=c_ (Ei (h.below m.aJ) 1 (by decide) (by decide)) l m j;unfold qw;generalize(eW bs 1 s)=r at*;obtain⟨n,H⟩:=r;simp only at A⊢;have⟨q,x⟩:=aD (q_ bs H);have I:=au x;rw[<-x];clear l j m h x;go_in;go_upto_region 1 with fail
 rw[<-F.o];go_wp2_with fail
 refine aN A.o ?_;rintro y ⟨d,f⟩;have B:=au (Uh d);rw[<-I.o]at B;have J:=au f;clear d f;go_wp2_with fail
 refine aN B.o ?_;rintro z ⟨d,f⟩;have c:=J.o.trans f;have g:z.heap[w.heap.size]? =_:=c.at v.o (by simp;omega);have C:=au (show∀(a b:ah),eD ((z.setCell ⟨w,0,none⟩ a).setCell ⟨w,1,none⟩ b) p bs q.2/\aQ [p] w ((z.setCell ⟨w,0,none⟩ a).setCell ⟨w,1,none⟩ b)fromλa b=>by
  have E:aQ [w.heap.size] z ((z.setCell ⟨w,0,none⟩ a).setCell ⟨w,1,none⟩ b):=((aQ.refl _ _).setCell _ (by simp) _).setCell _ (by simp) _;exact⟨d.far E k,((G.o.mono (by simp)).trans c).new E (by simp)⟩)
 have K:=au (show∀(a:Int) (b:ByteArray),((z.setCell ⟨w,0,none⟩ (a:Int)).setCell ⟨w,1,none⟩ (aA b)).heap[w.heap.size]? =some (aB #[(a:Int),aA b] 83 (0,0))fromλa b=>by
  have j:=aE (i:=0) g (a:Int);have L:=aE (i:=1) j (aA b);simpa using L)
 have⟨N,O⟩:=dk g;have P:=bB g 0;have Q:=bB g 1;obtain⟨t,T⟩:=q;simp only at C⊢;clear d f c g;go_wp2_with fail
 refine fS (dV rfl rfl (vi (K.o n t))) rfl ?_;exact⟨rfl,C.o _ _⟩
def JT(bs:List Int)(s:Nat×Bool):Nat->Nat×Bool
 |0=>s
 |k+1=>(eW bs 4 (JT bs s k)).2
def nth(bs:List Int)(s:Nat×Bool)(k:Nat):Int:=(eW bs 4 (JT bs s k)).1
def lC{bs:List Int}{s:Nat×Bool}(k:Nat)(h:eD w p bs (JT bs s k)):aj prog 155 #[p,an ar 4] w λe w'=>e=ax (nth bs s k:Int)/\eD w' p bs (JT bs s (k+1))/\aQ [p] w w':=Ei h 4 (by decide) (by decide)
def iN(bs:List Int):Nat->Nat×Bool->List aY×(Nat×Bool)
 |0,s=>([],s)
 |n+1,s=>if s.2 then([],s)else((qw bs s).1::(iN bs n (qw bs s).2).1,(iN bs n (qw bs s).2).2)
def vp(bs:List Int)(s:Nat×Bool):=q_ bs (JT bs s 5)
def xN(bs:List Int)(s:Nat×Bool):=eW bs 1 (vp bs s).2
def xO(bs:List Int)(s:Nat×Bool):=eW bs 1 (xN bs s).2
def uh(bs:List Int)(s:Nat×Bool):=AM bs (xO bs s).2
def pP(bs:List Int)(s:Nat×Bool):=qw bs (uh bs s).2
def xP(bs:List Int)(s:Nat×Bool):=eW bs 1 (JT bs s 6)
def xQ(bs:List Int)(s:Nat×Bool):=iN bs (xP bs s).1.toNat (xP bs s).2
def ui(bs:List Int)(s:Nat×Bool):=AM bs (xQ bs s).2
def gD(bs:List Int)(kind:Int)(s:Nat×Bool):Option cd×(Nat×Bool):=
 if kind=1 then(some (.eu (nth bs s 0) (nth bs s 1)),JT bs s 2)
 else if kind=2 then(some (.grant (nth bs s 0) (nth bs s 1) (nth bs s 2)),JT bs s 3)
 else if kind=3 then(some (.ask ⟨nth bs s 0,nth bs s 1,nth bs s 2,nth bs s 3,nth bs s 4,(vp bs s).1,(xN bs s).1,(xO bs s).1,(uh bs s).1,(pP bs s).1.1,(pP bs s).1.2⟩),(pP bs s).2)
 else if kind=4 then(some (.dj ⟨nth bs s 0,nth bs s 1,nth bs s 2,nth bs s 3,nth bs s 4,nth bs s 5,(xQ bs s).1,(ui bs s).1⟩),(ui bs s).2)
 else if kind=5 then(some (.stop (nth bs s 0) (nth bs s 1)),JT bs s 2)
 else(none,(s.1,true))
def cd.items:cd->List aY
 | .dj r=>r.items
 |_=> []
def AN(o:Option cd):List aY:=match o with|some m=>m.items|none=> []
def Uj(iv:ah)(o:Option cd):ah:=match o with|some m=>m.val iv|none=>.nilIface
def fW(o:Option cd)(s:Nat×Bool)(p:Nat)(bs:List Int)(w:ae)(e:ak)(w':ae):Prop:=
 ∃iv ig,e=ax (Uj iv o)/\Seg w' 83 2 ig iv (dT (AN o)) (AN o).length/\(∀b,ig=some b->w.heap.size<=b)/\eD w' p bs s/\aQ [p] w w'
def fW.plain{m:cd}{s:Nat×Bool}{bs:List Int}{w':ae}(a:m.items=[])(b:eD w' p bs s)(c:aQ [p] w w'):fW (some m) s p bs w (ax (m.val ())) w':=
 ⟨av none 0 0,none,rfl,by simp only[AN,a];exact Seg.nil _ _ _,by simp,b,c⟩
def eD.box{y z:ae}{q:Nat}{bs:List Int}{s:Nat×Bool}(h:eD y p bs s)(b:aQ [p] w y)(a:aQ [q] y z)(c:w.heap.size<=q)(d:p<w):eD z p bs s/\aQ [p] w z:=
 ⟨h.far a (by omega),b.new a (by simpa using c)⟩
def aea{bs:List Int}{s:Nat×Bool}(h:eD w p bs s):aj prog 129 #[p,an ar 1] w (fW (gD bs 1 s).1 (gD bs 1 s).2 p bs w):=by
 have j:=h.lt;have⟨u,k⟩:=aD (w.alloc (aB #[an ar 0,an ar 0] 235 (0,0)));have⟨v,l,P⟩:=dt k;have⟨A,B,C,n,E⟩:=iI (lC (s:=s) 0 (h.below l.aJ)) k l v (show∀z,eD z p bs (JT bs s 2)->aQ [p] w z->fW (gD bs 1 s).1 (gD bs 1 s).2 p bs w (ax (.iface 235 (aG #[an ar (nth bs s 0),an ar (nth bs s 1)]))) z fromλz F G=>fW.plain (m:=.eu (nth bs s 0) (nth bs s 1)) rfl F G);generalize fW (gD bs 1 s).1 (gD bs 1 s).2 p bs w=Q at*;clear k v l h;go_in;go_wp2_with fail
 rw[<-B.o];refine aN A.o ?_;rintro T ⟨e,f⟩;have⟨H,q⟩:=aK (lC 1 e) f;clear e f;go_wp2_with fail
 refine aN H.o ?_;rintro r ⟨e,f⟩;have b:=q.o.trans f;have d:r.heap[w.heap.size]? =_:=b.at n.o (by simp;omega);have⟨z,a⟩:=aD ((r.setCell ⟨w,0,none⟩ (nth bs s 0:Int)).setCell ⟨w,1,none⟩ (nth bs s 1:Int));have g:aQ [w.heap.size] r z:=by rw[a];exact(((aQ.refl [w.heap.size] _).setCell _ (by simp) _).setCell _ (by simp) _)
 have c:z.heap[w.heap.size]? =some (aB #[an ar (nth bs s 0),an ar (nth bs s 1)] 235 (0,0)):=by
  rw[a];have I:=aE (i:=0) d (nth bs s 0:Int);have J:=aE (i:=1) I (nth bs s 1:Int);simpa using J
 have⟨x,y⟩:=eD.box e ((C.o.mono (by simp)).trans b) g (aP _) j;have K:=au (E.o z x y);have L:=aF d 0 rfl;have M:=bB d 0;have U:=aF c 0 rfl;have N:=aF d 1 rfl;have O:=bB d 1;have V:=aF c 1 rfl;have t:=au a;clear e f b d a g c x y;go_upto_region 5 with fail
 rw[<-t.o];clear L M N O;go_wp2;exact K.o
def aeb{bs:List Int}{s:Nat×Bool}(h:eD w p bs s):aj prog 129 #[p,an ar 2] w (fW (gD bs 2 s).1 (gD bs 2 s).2 p bs w):=by
 have j:=h.lt;have⟨u,k⟩:=aD (w.alloc (aB #[an ar 0,an ar 0,an ar 0] 238 (0,0)));have⟨x,l,X⟩:=dt k;have⟨B,C,E,n,F⟩:=iI (lC (s:=s) 0 (h.below l.aJ)) k l x (show∀z,eD z p bs (JT bs s 3)->aQ [p] w z->fW (gD bs 2 s).1 (gD bs 2 s).2 p bs w (ax (.iface 238 (aG #[an ar (nth bs s 0),an ar (nth bs s 1),an ar (nth bs s 2)]))) z fromλz G H=>fW.plain (m:=.grant (nth bs s 0) (nth bs s 1) (nth bs s 2)) rfl G H);generalize fW (gD bs 2 s).1 (gD bs 2 s).2 p bs w=Q at*;clear k x l h;go_in;go_wp2_with fail
 rw[<-C.o];refine aN B.o ?_;rintro Y ⟨c,d⟩;have⟨I,q⟩:=aK (lC 1 c) d;clear c d;go_wp2_with fail
 refine aN I.o ?_;rintro Z ⟨c,d⟩;have⟨J,r⟩:=aK (lC 2 c) (q.o.trans d);clear c d;go_wp2_with fail
 refine aN J.o ?_;rintro t ⟨c,d⟩;have f:=r.o.trans d;have e:t.heap[w.heap.size]? =_:=f.at n.o (by simp;omega);have⟨z,a⟩:=aD (((t.setCell ⟨w,0,none⟩ (nth bs s 0:Int)).setCell ⟨w,1,none⟩ (nth bs s 1:Int)).setCell ⟨w,2,none⟩ (nth bs s 2:Int));have g:aQ [w.heap.size] t z:=by rw[a];exact((((aQ.refl [w.heap.size] _).setCell _ (by simp) _).setCell _ (by simp) _).setCell _ (by simp) _)
 have b:z.heap[w.heap.size]? =some (aB #[an ar (nth bs s 0),an ar (nth bs s 1),an ar (nth bs s 2)] 238 (0,0)):=by
  rw[a];have K:=aE (i:=0) e (nth bs s 0:Int);have L:=aE (i:=1) K (nth bs s 1:Int);have M:=aE (i:=2) L (nth bs s 2:Int);simpa using M
 have⟨y,A⟩:=eD.box c ((E.o.mono (by simp)).trans f) g (aP _) j;have N:=au (F.o z y A);have O:=aF e 0 rfl;have P:=bB e 0;have m0:=aF b 0 rfl;have T:=aF e 1 rfl;have U:=bB e 1;have m1:=aF b 1 rfl;have V:=aF e 2 rfl;have W:=bB e 2;have m2:=aF b 2 rfl;have v:=au a;clear c d f e a g b y A;go_upto_region 9 with fail
 rw[<-v.o];clear O P T U V W;go_wp2;exact N.o
def aec{bs:List Int}{s:Nat×Bool}(h:eD w p bs s):aj prog 129 #[p,an ar 5] w (fW (gD bs 5 s).1 (gD bs 5 s).2 p bs w):=by
 have j:=h.lt;have⟨u,k⟩:=aD (w.alloc (aB #[an ar 0,an ar 0] 248 (0,0)));have⟨v,l,P⟩:=dt k;have⟨A,B,C,n,E⟩:=iI (lC (s:=s) 0 (h.below l.aJ)) k l v (show∀z,eD z p bs (JT bs s 2)->aQ [p] w z->fW (gD bs 5 s).1 (gD bs 5 s).2 p bs w (ax (.iface 248 (aG #[an ar (nth bs s 0),an ar (nth bs s 1)]))) z fromλz F G=>fW.plain (m:=.stop (nth bs s 0) (nth bs s 1)) rfl F G);generalize fW (gD bs 5 s).1 (gD bs 5 s).2 p bs w=Q at*;clear k v l h;go_in;go_wp2_with fail
 rw[<-B.o];refine aN A.o ?_;rintro T ⟨e,f⟩;have⟨H,q⟩:=aK (lC 1 e) f;clear e f;go_wp2_with fail
 refine aN H.o ?_;rintro r ⟨e,f⟩;have b:=q.o.trans f;have d:r.heap[w.heap.size]? =_:=b.at n.o (by simp;omega);have⟨z,a⟩:=aD ((r.setCell ⟨w,0,none⟩ (nth bs s 0:Int)).setCell ⟨w,1,none⟩ (nth bs s 1:Int));have g:aQ [w.heap.size] r z:=by rw[a];exact(((aQ.refl [w.heap.size] _).setCell _ (by simp) _).setCell _ (by simp) _)
 have c:z.heap[w.heap.size]? =some (aB #[an ar (nth bs s 0),an ar (nth bs s 1)] 248 (0,0)):=by
  rw[a];have I:=aE (i:=0) d (nth bs s 0:Int);have J:=aE (i:=1) I (nth bs s 1:Int);simpa using J
 have⟨x,y⟩:=eD.box e ((C.o.mono (by simp)).trans b) g (aP _) j;have K:=au (E.o z x y);have L:=aF d 0 rfl;have M:=bB d 0;have U:=aF c 0 rfl;have N:=aF d 1 rfl;have O:=bB d 1;have V:=aF c 1 rfl;have t:=au a;clear e f b d a g c x y;go_upto_region 30 with fail
 rw[<-t.o];clear L M N O;go_wp2;exact K.o
def aed{bs:List Int}{s:Nat×Bool}(h:eD w p bs (JT bs s 5)):aj prog 156 #[p] w λe w'=>e=ax (aA (vp bs s).1)/\eD w' p bs (vp bs s).2/\aQ [p] w w':=Uh h
def aee{bs:List Int}{s:Nat×Bool}(h:eD w p bs (vp bs s).2):aj prog 155 #[p,an ar 1] w λe w'=>e=ax (an ar (xN bs s).1)/\eD w' p bs (xN bs s).2/\aQ [p] w w':=Ei h 1 (by decide) (by decide)
def aef{bs:List Int}{s:Nat×Bool}(h:eD w p bs (xN bs s).2):aj prog 155 #[p,an ar 1] w λe w'=>e=ax (an ar (xO bs s).1)/\eD w' p bs (xO bs s).2/\aQ [p] w w':=Ei h 1 (by decide) (by decide)
def aeg{bs:List Int}{s:Nat×Bool}(h:eD w p bs (xO bs s).2):aj prog 157 #[p] w λe w'=>e=ax (aw (uh bs s).1)/\eD w' p bs (uh bs s).2/\aQ [p] w w':=Na h
def aeh{bs:List Int}{s:Nat×Bool}(h:eD w p bs (uh bs s).2):aj prog 158 #[p] w λe w'=>e=ax (aG #[an ar (pP bs s).1.1,aA (pP bs s).1.2])/\eD w' p bs (pP bs s).2/\aQ [p] w w':=Ui h
def aei{bs:List Int}{s:Nat×Bool}(h:eD w p bs s):aj prog 129 #[p,an ar 3] w (fW (gD bs 3 s).1 (gD bs 3 s).2 p bs w):=by
 have t:=h.lt;have⟨u,v⟩:=aD (w.alloc (aB #[an ar 0,an ar 0,an ar 0,an ar 0,an ar 0,aA ⟨#[]⟩,an ar 0,an ar 0,aw false,an ar 0,aA ⟨#[]⟩] 240 (0,0)));have⟨E,x,f⟩:=dt v;have e:=h.below x.aJ;have⟨F,k,b,G⟩:=c_ v (x.mono (by simp):aQ [p] w u) E (show∀z,eD z p bs (pP bs s).2->aQ [p] w z->fW (gD bs 3 s).1 (gD bs 3 s).2 p bs w (ax (.iface 240 (aG #[an ar (nth bs s 0),an ar (nth bs s 1),an ar (nth bs s 2),an ar (nth bs s 3),an ar (nth bs s 4),aA (vp bs s).1,an ar (xN bs s).1,an ar (xO bs s).1,aw (uh bs s).1,an ar (pP bs s).1.1,aA (pP bs s).1.2]))) z fromλz I J=>fW.plain (m:=.ask ⟨(nth bs s 0),(nth bs s 1),(nth bs s 2),(nth bs s 3),(nth bs s 4),(vp bs s).1,(xN bs s).1,(xO bs s).1,(uh bs s).1,(pP bs s).1.1,(pP bs s).1.2⟩) rfl I J);generalize fW (gD bs 3 s).1 (gD bs 3 s).2 p bs w=Q at*;have H:=au (lC (s:=s) 0 e);clear v E x h e;go_in;go_upto_region 12 with fail
 rw[<-F.o];go_wp2_with fail
 refine aN H.o ?_;rintro y ⟨e,c⟩;have l:=au (k.o.trans c);have a:=c.at b.o (by simp;omega);clear c;have H:=au (lC 1 e);have k:=l;have b:=au a;clear a e f;have f:=az b.o;go_wp2_with fail
 refine aN H.o ?_;rintro y ⟨e,c⟩;have l:=au (k.o.trans c);have a:=c.at b.o (by simp;omega);clear c;have H:=au (lC 2 e);have k:=l;have b:=au a;clear a e f;have f:=az b.o;go_wp2_with fail
 refine aN H.o ?_;rintro y ⟨e,c⟩;have l:=au (k.o.trans c);have a:=c.at b.o (by simp;omega);clear c;have H:=au (lC 3 e);have k:=l;have b:=au a;clear a e f;have f:=az b.o;go_wp2_with fail
 refine aN H.o ?_;rintro y ⟨e,c⟩;have l:=au (k.o.trans c);have a:=c.at b.o (by simp;omega);clear c;have H:=au (lC 4 e);have k:=l;have b:=au a;clear a e f;have f:=az b.o;go_wp2_with fail
 refine aN H.o ?_;rintro y ⟨e,c⟩;have l:=au (k.o.trans c);have a:=c.at b.o (by simp;omega);clear c;clear f;have f:=az a;have⟨z,d⟩:=aD (((((y.setCell ⟨w,0,none⟩ (nth bs s 0:Int)).setCell ⟨w,1,none⟩ (nth bs s 1:Int)).setCell ⟨w,2,none⟩ (nth bs s 2:Int)).setCell ⟨w,3,none⟩ (nth bs s 3:Int)).setCell ⟨w,4,none⟩ (nth bs s 4:Int));have g:aQ [w.heap.size] y z:=by rw[d];exact((((((aQ.refl [w.heap.size] _).setCell _ (by simp) _).setCell _ (by simp) _).setCell _ (by simp) _).setCell _ (by simp) _).setCell _ (by simp) _)
 have j:z.heap[w.heap.size]? =some (aB #[an ar (nth bs s 0),an ar (nth bs s 1),an ar (nth bs s 2),an ar (nth bs s 3),an ar (nth bs s 4),aA ⟨#[]⟩,an ar 0,an ar 0,aw false,an ar 0,aA ⟨#[]⟩] 240 (0,0)):=by
  rw[d];have K:=aE (i:=0) a (nth bs s 0:Int);have L:=aE (i:=1) K (nth bs s 1:Int);have M:=aE (i:=2) L (nth bs s 2:Int);have N:=aE (i:=3) M (nth bs s 3:Int);have O:=aE (i:=4) N (nth bs s 4:Int);simpa using O
 have⟨r,q⟩:=eD.box e l.o g (aP _) t;have P:=aF a 0 rfl;have T:=bB a 0;have U:=aF a 1 rfl;have V:=bB a 1;have W:=aF a 2 rfl;have X:=bB a 2;have Y:=aF a 3 rfl;have Z:=bB a 3;have e4:=aF a 4 rfl;have f4:=bB a 4;have⟨n,b,k,H⟩:=c_ d j q (aed r);clear e a d g j r q;go_upto_region 13 with fail
 rw[<-n.o];clear P T U V W X Y Z e4 f4;clear f;have f:=az b.o;go_wp2_with fail
 refine aN H.o ?_;rintro y ⟨e,c⟩;have l:=au (k.o.trans c);have a:=c.at b.o (by simp;omega);clear c;clear f;have f:=az a;have⟨z,d⟩:=aD (y.setCell ⟨w,5,none⟩ (aA (vp bs s).1));have g:aQ [w.heap.size] y z:=by rw[d];exact((aQ.refl [w.heap.size] _).setCell _ (by simp) _)
 have j:z.heap[w.heap.size]? =some (aB #[an ar (nth bs s 0),an ar (nth bs s 1),an ar (nth bs s 2),an ar (nth bs s 3),an ar (nth bs s 4),aA (vp bs s).1,an ar 0,an ar 0,aw false,an ar 0,aA ⟨#[]⟩] 240 (0,0)):=by
  rw[d];have k5:=aE (i:=5) a (aA (vp bs s).1);simpa using k5
 have⟨r,q⟩:=eD.box e l.o g (aP _) t;have e5:=aF a 5 rfl;have f5:=bB a 5;have⟨n,b,k,H⟩:=c_ d j q (aee r);clear e a d g j r q;go_upto_region 14 with fail
 rw[<-n.o];clear e5 f5;clear f;have f:=az b.o;go_wp2_with fail
 refine aN H.o ?_;rintro y ⟨e,c⟩;have l:=au (k.o.trans c);have a:=c.at b.o (by simp;omega);clear c;have H:=au (aef e);have k:=l;have b:=au a;clear a e f;have f:=az b.o;go_wp2_with fail
 refine aN H.o ?_;rintro y ⟨e,c⟩;have l:=au (k.o.trans c);have a:=c.at b.o (by simp;omega);clear c;have H:=au (aeg e);have k:=l;have b:=au a;clear a e f;have f:=az b.o;go_wp2_with fail
 refine aN H.o ?_;rintro y ⟨e,c⟩;have l:=au (k.o.trans c);have a:=c.at b.o (by simp;omega);clear c;clear f;have f:=az a;have⟨z,d⟩:=aD (((y.setCell ⟨w,6,none⟩ (an ar (xN bs s).1)).setCell ⟨w,7,none⟩ (an ar (xO bs s).1)).setCell ⟨w,8,none⟩ (aw (uh bs s).1));have g:aQ [w.heap.size] y z:=by rw[d];exact((((aQ.refl [w.heap.size] _).setCell _ (by simp) _).setCell _ (by simp) _).setCell _ (by simp) _)
 have j:z.heap[w.heap.size]? =some (aB #[an ar (nth bs s 0),an ar (nth bs s 1),an ar (nth bs s 2),an ar (nth bs s 3),an ar (nth bs s 4),aA (vp bs s).1,an ar (xN bs s).1,an ar (xO bs s).1,aw (uh bs s).1,an ar 0,aA ⟨#[]⟩] 240 (0,0)):=by
  rw[d];have k6:=aE (i:=6) a (an ar (xN bs s).1);have k7:=aE (i:=7) k6 (an ar (xO bs s).1);have k8:=aE (i:=8) k7 (aw (uh bs s).1);simpa using k8
 have⟨r,q⟩:=eD.box e l.o g (aP _) t;have e6:=aF a 6 rfl;have f6:=bB a 6;have e7:=aF a 7 rfl;have f7:=bB a 7;have e8:=aF a 8 rfl;have f8:=bB a 8;have⟨n,b,k,H⟩:=c_ d j q (aeh r);clear e a d g j r q;go_upto_region 15 with fail
 rw[<-n.o];clear e6 f6 e7 f7 e8 f8;clear f;have f:=az b.o;go_wp2_with fail
 refine aN H.o ?_;rintro y ⟨e,c⟩;have l:=au (k.o.trans c);have a:=c.at b.o (by simp;omega);clear c;clear f;have f:=az a;have⟨z,d⟩:=aD ((y.setCell ⟨w,9,none⟩ (an ar (pP bs s).1.1)).setCell ⟨w,10,none⟩ (aA (pP bs s).1.2));have g:aQ [w.heap.size] y z:=by rw[d];exact(((aQ.refl [w.heap.size] _).setCell _ (by simp) _).setCell _ (by simp) _)
 have j:z.heap[w.heap.size]? =some (aB #[an ar (nth bs s 0),an ar (nth bs s 1),an ar (nth bs s 2),an ar (nth bs s 3),an ar (nth bs s 4),aA (vp bs s).1,an ar (xN bs s).1,an ar (xO bs s).1,aw (uh bs s).1,an ar (pP bs s).1.1,aA (pP bs s).1.2] 240 (0,0)):=by
  rw[d];have k9:=aE (i:=9) a (an ar (pP bs s).1.1);have A:=aE (i:=10) k9 (aA (pP bs s).1.2);simpa using A
 have⟨r,q⟩:=eD.box e l.o g (aP _) t;have e9:=aF a 9 rfl;have f9:=bB a 9;have B:=aF a 10 rfl;have C:=bB a 10;have⟨n,b,k,HF⟩:=c_ d j q (G.o z r q);clear e a d g j r q;go_upto_region 16 with fail
 rw[<-n.o];clear e9 f9 B C;clear f;have f:=az b.o;have m0:z.cell? w.heap.size=(nth bs s 0:Int):=by have:=b.o;simp[World.cell?,this]
 have m1:z.cell? ⟨w,1,none⟩=(nth bs s 1:Int):=by have:=b.o;simp[World.cell?,this]
 have m2:z.cell? ⟨w,2,none⟩=(nth bs s 2:Int):=by have:=b.o;simp[World.cell?,this]
 have m3:z.cell? ⟨w,3,none⟩=(nth bs s 3:Int):=by have:=b.o;simp[World.cell?,this]
 have m4:z.cell? ⟨w,4,none⟩=(nth bs s 4:Int):=by have:=b.o;simp[World.cell?,this]
 have m5:z.cell? ⟨w,5,none⟩=some (aA (vp bs s).1):=by have:=b.o;simp[World.cell?,this]
 have m6:z.cell? ⟨w,6,none⟩=some (an ar (xN bs s).1):=by have:=b.o;simp[World.cell?,this]
 have m7:z.cell? ⟨w,7,none⟩=some (an ar (xO bs s).1):=by have:=b.o;simp[World.cell?,this]
 have m8:z.cell? ⟨w,8,none⟩=some (aw (uh bs s).1):=by have:=b.o;simp[World.cell?,this]
 have m9:z.cell? ⟨w,9,none⟩=some (an ar (pP bs s).1.1):=by have:=b.o;simp[World.cell?,this]
 have m10:z.cell? ⟨w,10,none⟩=some (aA (pP bs s).1.2):=by have:=b.o;simp[World.cell?,this]
 go_wp2;exact HF.o
def Uk{bs:List Int}(h:cQ bs)(s:Nat×Bool):0<=(eW bs 1 s).1/\(eW bs 1 s).1<256:=by
 unfold eW;split
 .simp only[oD]
  have b:∀x∈(bs.drop s.1).take 1,0<=x/\x<256:=λx b=>h x (nu (List.mem_of_mem_take b))
  have c:((bs.drop s.1).take 1).length<=1:=by rw[dw];omega
  generalize(bs.drop s.1).take 1=l at*
  match l,c with
  | [],_=>exact⟨Int.le_refl 0,by show(0:Int)<256;decide⟩
  | [a],_=>
   have:=b a (by simp);simp only[qG,List.foldl_cons,List.foldl_nil];omega
 .exact⟨Int.le_refl 0,by show(0:Int)<256;decide⟩
def Seg.JU{g:Option Nat}{v:ah}{l:List aY}(h:Seg w 83 2 g v (dT l) l.length)(x:aY)(k:l.length<=1000):
 ∃a c t g',(∀f,(Builtin.append_ #[66,66] f #[v,av (some ⟨w,0,none⟩) 1 1]).run prog (w.alloc (aB #[an ar x.1,aA x.2] 83 (0,0)))=.ok (av a (l.length+1) c) t)/\Seg t 83 2 g' (av a (l.length+1) c) (dT (l++ [x])) (l++ [x]).length/\aQ g.toList w t/\(g'=g∨∃b,g'=some b/\w.heap.size<=b):=by
 have⟨m,t,g',d,e,i,j⟩:=h.push 66 underlying66 rN rfl (by decide) [an ar x.1,aA x.2] rfl (by simp[Value.oneCell']) (by omega) (by decide);obtain⟨a,c,rfl,_⟩:=e.len;exact⟨a,c,t,g',d,by simpa[dT,rK]using e,i,j⟩
structure JV(w:ae)(p:Nat)(bs:List Int)(s:Nat×Bool)(n:Nat)(j:Nat)(wr:ae)where
 iv:ah
 ig:Option Nat
 l:List aY
 st:Nat×Bool
 b:wr.heap[w.heap.size]? =some (aB #[an ar (nth bs s 0),an ar (nth bs s 1),an ar (nth bs s 2),an ar (nth bs s 3),an ar (nth bs s 4),an ar (nth bs s 5),iv,aw false] 246 (0,0))
 sg:Seg wr 83 2 ig iv (dT l) l.length
 gg:∀x,ig=some x->w.heap.size<x
 rd:eD wr p bs st
 c:aQ [p] w wr
 n1:l.length=j
 e:iN bs n (xP bs s).2=(l++(iN bs (n-j) st).1,(iN bs (n-j) st).2)
theorem Nb{wr z t:ae}{p:Nat}{bs:List Int}{s:Nat×Bool}{n j:Nat}{iv:ah}{o g':Option Nat}{l:List aY}{x:aY}{a:Nat×Bool}{f:Option Addr}{h:Nat}
 (u:wr.heap[w.heap.size]? =some (aB #[an ar (nth bs s 0),an ar (nth bs s 1),an ar (nth bs s 2),an ar (nth bs s 3),an ar (nth bs s 4),an ar (nth bs s 5),iv,aw false] 246 (0,0))) (v:aQ [p] w wr) (c:∀x,o=some x->w.heap.size<x) (G:l.length=j)
 (H:iN bs n (xP bs s).2=(l++(x::(iN bs (n-(j+1)) a).1),(iN bs (n-(j+1)) a).2)) (E:aQ [p] wr z) (F:eD z p bs a) (I:Seg t 83 2 g' (av f (l.length+1) h) (dT (l++ [x])) (l++ [x]).length) (k:aQ o.toList z t) (J:g'=o∨∃b,g'=some b/\z.heap.size<=b)
 (y:t.heap[w.heap.size]? =some (aB #[an ar (nth bs s 0),an ar (nth bs s 1),an ar (nth bs s 2),an ar (nth bs s 3),an ar (nth bs s 4),an ar (nth bs s 5),iv,aw false] 246 (0,0))) (A:p<w):Nonempty (JV w p bs s n (j+1) (t.setCell ⟨w,6,none⟩ (av f (l.length+1) h))):=by
 have K:=az u;have d:=(aQ.refl [w.heap.size] t).setCell ⟨w,6,none⟩ (by simp) (av f (l.length+1) h);have m:∀x,g'=some x->w.heap.size<x:=λx r=>by
  obtain e|⟨b,e,L⟩:=J
  .exact c x (by rw[<-e,r])
  .rw[r]at e
   simp only[bA]at e;subst e;have:=E.size;omega
 have B:eD t p bs a:=by
  cases hig:o with
  |none=>rw[hig]at k;exact F.below k.aJ
  |some g=>
   rw[hig]at k;exact F.far (q:=g) (by simpa using k) (by have:=c g hig;omega)
 have C:=(v.trans E).new k (λx r=>by have:=c x (by simpa using r);omega);refine⟨⟨av f (l.length+1) h,g',l++ [x],a,?_,I.bH d (λb u=>by have:=m b u;simp;omega),m,B.far d A,C.new d (by simp),by simp[G],by rw[H];simp⟩⟩;have:=aE (i:=6) y (av f (l.length+1) h);simpa using this
def aej{p:Nat}{bs:List Int}{s:Nat×Bool}(h:eD w p bs (JT bs s 6)):aj prog 155 #[p,an ar 1] w λe w'=>e=ax (an ar (xP bs s).1)/\eD w' p bs (xP bs s).2/\aQ [p] w w':=Ei h 1 (by decide) (by decide)
def aek{p:Nat}{bs:List Int}{s:Nat×Bool}(h:eD w p bs s):aj prog 129 #[p,an ar 4] w (fW (gD bs 4 s).1 (gD bs 4 s).2 p bs w):=by
 have X:=h.lt;have⟨u,hu⟩:=aD (w.alloc (aB #[an ar 0,an ar 0,an ar 0,an ar 0,an ar 0,an ar 0,(),aw false] 246 (0,0)));have⟨g1,gg,E⟩:=dt hu;have d:=h.below gg.aJ;have⟨HU,I,q⟩:=aX hu (gg.mono (by simp):aQ [p] w u) g1;have hR:∀z iv ig,Seg z 83 2 ig iv (dT (xQ bs s).1) (xQ bs s).1.length->(∀x,ig=some x->w.heap.size<x)->eD z p bs (ui bs s).2->aQ [p] w z->fW (gD bs 4 s).1 (gD bs 4 s).2 p bs w (ax (.iface 246 (aG #[an ar (nth bs s 0),an ar (nth bs s 1),an ar (nth bs s 2),an ar (nth bs s 3),an ar (nth bs s 4),an ar (nth bs s 5),iv,aw (ui bs s).1]))) z:=λz iv ig h1 h2 h3 h4=>⟨iv,ig,rfl,h1,λb a=>lH (h2 b a),h3,h4⟩
 have HR:=au hR;have⟨L,M⟩:=Uk h.ok (JT bs s 6);have L:0<=(xP bs s).1:=L;have M:(xP bs s).1<256:=M;generalize fW (gD bs 4 s).1 (gD bs 4 s).2 p bs w=Q at*;have H:=au (lC (s:=s) 0 d);clear hu g1 gg h d hR;go_in;go_upto_region 19 with fail
 rw[<-HU.o];go_wp2_with fail
 refine aN H.o ?_;rintro y ⟨d,c⟩;have N:=au (I.o.trans c);have a:=c.at q.o (by simp;omega);clear c;have H:=au (lC 1 d);have I:=N;have q:=au a;clear a d E;have E:=az q.o;go_wp2_with fail
 refine aN H.o ?_;rintro y ⟨d,c⟩;have N:=au (I.o.trans c);have a:=c.at q.o (by simp;omega);clear c;have H:=au (lC 2 d);have I:=N;have q:=au a;clear a d E;have E:=az q.o;go_wp2_with fail
 refine aN H.o ?_;rintro y ⟨d,c⟩;have N:=au (I.o.trans c);have a:=c.at q.o (by simp;omega);clear c;have H:=au (lC 3 d);have I:=N;have q:=au a;clear a d E;have E:=az q.o;go_wp2_with fail
 refine aN H.o ?_;rintro y ⟨d,c⟩;have N:=au (I.o.trans c);have a:=c.at q.o (by simp;omega);clear c;have H:=au (lC 4 d);have I:=N;have q:=au a;clear a d E;have E:=az q.o;go_wp2_with fail
 refine aN H.o ?_;rintro y ⟨d,c⟩;have N:=au (I.o.trans c);have a:=c.at q.o (by simp;omega);clear c;have H:=au (lC 5 d);have I:=N;have q:=au a;clear a d E;have E:=az q.o;go_wp2_with fail
 refine aN H.o ?_;rintro y ⟨d,c⟩;have N:=au (I.o.trans c);have a:=c.at q.o (by simp;omega);clear c;clear E;have E:=az a;have⟨z,g⟩:=aD ((((((y.setCell ⟨w,0,none⟩ (nth bs s 0:Int)).setCell ⟨w,1,none⟩ (nth bs s 1:Int)).setCell ⟨w,2,none⟩ (nth bs s 2:Int)).setCell ⟨w,3,none⟩ (nth bs s 3:Int)).setCell ⟨w,4,none⟩ (nth bs s 4:Int)).setCell ⟨w,5,none⟩ (nth bs s 5:Int));have B:aQ [w.heap.size] y z:=by rw[g];exact(((((((aQ.refl [w.heap.size] _).setCell _ (by simp) _).setCell _ (by simp) _).setCell _ (by simp) _).setCell _ (by simp) _).setCell _ (by simp) _).setCell _ (by simp) _)
 have m:z.heap[w.heap.size]? =some (aB #[an ar (nth bs s 0),an ar (nth bs s 1),an ar (nth bs s 2),an ar (nth bs s 3),an ar (nth bs s 4),an ar (nth bs s 5),(),aw false] 246 (0,0)):=by
  rw[g];have k0:=aE (i:=0) a (nth bs s 0:Int);have k1:=aE (i:=1) k0 (nth bs s 1:Int);have k2:=aE (i:=2) k1 (nth bs s 2:Int);have k3:=aE (i:=3) k2 (nth bs s 3:Int);have k4:=aE (i:=4) k3 (nth bs s 4:Int);have k5:=aE (i:=5) k4 (nth bs s 5:Int);simpa using k5
 have⟨b1,b2⟩:=eD.box d N.o B (aP _) X;have e0:=aF a 0 rfl;have f0:=bB a 0;have e1:=aF a 1 rfl;have f1:=bB a 1;have e2:=aF a 2 rfl;have f2:=bB a 2;have e3:=aF a 3 rfl;have f3:=bB a 3;have e4:=aF a 4 rfl;have f4:=bB a 4;have e5:=aF a 5 rfl;have f5:=bB a 5;have⟨O,q,I,H⟩:=c_ g m b2 (aej b1);clear d a g B m b1 b2;go_upto_region 20 with fail
 rw[<-O.o];clear e0 f0 e1 f1 e2 f2 e3 f3 e4 f4 e5 f5;clear E;have E:=az q.o;go_wp2_with fail
 refine aN H.o ?_;rintro y2 ⟨d,c⟩;obtain⟨n,hn⟩:∃n:Nat,(xP bs s).1=(n:Int):=⟨(xP bs s).1.toNat,by omega⟩
 have hrn:xQ bs s=iN bs n (xP bs s).2:=by unfold xQ;rw[hn,gE]
 have hi0:JV w p bs s n 0 y2:=⟨av none 0 0,none,[],(xP bs s).2,c.at q.o (by simp;omega),Seg.nil _ _ _,by simp,d,I.o.trans c,rfl,by simp⟩;have⟨HI0,Zm⟩:=aK (show Nonempty (JV w p bs s n 0 y2)from⟨hi0⟩) hrn;rw[hn]at M⊢;clear d c hrn hi0 hn L E;go_wp2_with fail
 go_loopw [94] (λi wr=>∃j:Nat,i=an ar j/\j<=n/\Nonempty (JV w p bs s n j wr)) (λi _=>n-(intOf i).toNat)
 case atStart=>exact⟨0,rfl,bz _,HI0.o⟩
 case round=>
  obtain⟨j,rfl,hj,⟨hi⟩⟩:=hrel;obtain⟨iv,ig,l,W,a,f,J,hrd,K,hl,Y⟩:=hi;have C:=hrd;have E:=az a;by_cases hlt:j<n
  .obtain⟨⟨v,hp,hv,hva⟩,hok,hlen,hle⟩:=hrd
   have cb:=aF hp 2 rfl;cases hst:W.2
   .
    obtain⟨ia,ic,rfl,_⟩:=f.len;have c6:=aF a 6 rfl;have HIT:=au (λ(y:ae) (hy:aQ ([]:List Nat) wr y)=>Ui (C.below hy.aJ));have hnx:iN bs (n-j) W=((qw bs W).1::(iN bs (n-(j+1)) (qw bs W).2).1,(iN bs (n-(j+1)) (qw bs W).2).2):=by
     rw[show n-j=(n-(j+1))+1 by omega]
     conv=>lhs;unfold iN
     rw[hst];rfl
    rw[hnx]at Y;have⟨x,hx⟩:=aD (qw bs W);rw[<-hx]at HIT Y;obtain⟨⟨x0,x1⟩,st'⟩:=x;simp only at HIT Y;rw[hst]at cb;have⟨HE,F,r,P,q,HL⟩:=eC Y f J K a hl;have hl5:l.length<=1000:=by omega
    have q2:(j:Int)<(n:Int):=by omega
    clear C hx hnx Y f J K a hl hst hp hv hva hok hle;go_upto_region 23 with fail
    go_region_law (first
     |(refine dm (by rfl) 158 func158 (by kernel_rfl) (by kernel_rfl) (by rfl) _ (by kernel_rfl) (HIT.o _ (by first|exact aQ.refl _ _|exact(aQ.refl _ _).drew)) ?_;rintro e z ⟨rfl,d,c⟩;refine⟨_,rfl,?_⟩;have Z:aQ [p] wr z:=(by first|exact c|exact((aQ.refl _ _).drew).trans c);have⟨a',c',t,g',h1,h2,h3,h4⟩:=(F.o.bH Z (λb a=>by have:=r.o b a;simp;omega)).JU (x0,x1) hl5;have gN:=au h1;have H2:=au h2;have H3:=au h3;have H4:=au h4;have H5:=au Z;have H6:=au d;have m:=Z.at q.o (by simp;omega);have z6:z.cell? ⟨w,6,none⟩=some (av ia l.length ic):=(aF m _ rfl);have T:=h3.at m (by intro e;have:=r.o _ (by simpa using e);omega);have t6:t.cell? ⟨w,6,none⟩=some (av ia l.length ic):=(aF T _ rfl);have tf:t.frozen? ⟨w,6,none⟩=false:=(bB T _);have HTB:=au T;have tl:=az T;have zl:=az m;clear d c Z h1 h2 h3 h4 m T)
     |(refine kM (by rfl) (.tmp 101) (.tmp 104) 66 (by rfl) _ _ _ t (by rfl) (by rfl) (gN.o _) ?_)
     |fail)
    all_goals
     have HN:=au (show Nonempty (JV w p bs s n (j+1) (t.setCell ⟨w,6,none⟩ (av a' (l.length+1) c')))from Nb (x:=(x0,x1)) q.o P.o r.o HL.o HE.o H5.o H6.o H2.o H3.o H4.o HTB.o X);go_wp2_with fail
     go_roundw
     case rel=>exact⟨j+1,by simp,by omega,HN.o⟩
     case measure=>simp[intOf];omega
   .have A:xQ bs s=(l,W):=by
     rw[Zm.o,Y,show n-j=(n-j-1)+1 by omega];unfold iN;rw[hst];simp
    rw[hst]at cb;have G:=Na C;have U:(xQ bs s).1=l:=by rw[A]
    have V:AM bs W=ui bs s:=by unfold ui;rw[A]
    rw[V]at G;rw[<-U]at f;have⟨H,F,r,P,q⟩:=iI G f J K a;clear Y A U V G f J K a hl C hst hp hv hva hok hle hlen;obtain⟨ia,ic,rfl,_⟩:=F.o.len;go_wp2_with fail
    refine aN H.o ?_;rintro y3 ⟨d,c⟩;have a:=c.at q.o (by simp;omega);have f:=F.o.bH c (λb a=>by have:=r.o b a;simp;omega);have⟨z,g⟩:=aD (y3.setCell ⟨w,7,none⟩ (aw (ui bs s).1));have B:aQ [w.heap.size] y3 z:=by rw[g];exact(aQ.refl [w.heap.size] _).setCell _ (by simp) _
    have m:z.heap[w.heap.size]? =some (aB #[an ar (nth bs s 0),an ar (nth bs s 1),an ar (nth bs s 2),an ar (nth bs s 3),an ar (nth bs s 4),an ar (nth bs s 5),av ia (xQ bs s).1.length ic,aw (ui bs s).1] 246 (0,0)):=by
     rw[g];have k:=aE (i:=7) a (aw (ui bs s).1);simpa using k
    have⟨b1,b2⟩:=eD.box d (P.o.trans c) B (aP _) X;have HF:=au (HR.o z _ ig (f.bH B (λb a=>by have:=r.o b a;simp;omega)) r.o b1 b2);have e7:=aF a 7 rfl;have f7:=bB a 7;have⟨m0,m1,m2,m3,m4,m5,m6,m7⟩:=Ou m;have O:=au g;clear d c a f g B m b1 b2;go_upto_region 26 with fail
    rw[<-O.o];clear e7 f7;go_wp2;exact HF.o
  .obtain rfl:j=n:=by omega
   have A:xQ bs s=(l,W):=by
    rw[Zm.o,Y,Nat.sub_self];simp[iN]
   have G:=Na C;have U:(xQ bs s).1=l:=by rw[A]
   have V:AM bs W=ui bs s:=by unfold ui;rw[A]
   rw[V]at G;rw[<-U]at f;have⟨H,F,r,P,q⟩:=iI G f J K a;clear Y A U V G f J K a hl C hrd;obtain⟨ia,ic,rfl,_⟩:=F.o.len;go_wp2_with fail
   refine aN H.o ?_;rintro y3 ⟨d,c⟩;have a:=c.at q.o (by simp;omega);have f:=F.o.bH c (λb a=>by have:=r.o b a;simp;omega);have⟨z,g⟩:=aD (y3.setCell ⟨w,7,none⟩ (aw (ui bs s).1));have B:aQ [w.heap.size] y3 z:=by rw[g];exact(aQ.refl [w.heap.size] _).setCell _ (by simp) _
   have m:z.heap[w.heap.size]? =some (aB #[an ar (nth bs s 0),an ar (nth bs s 1),an ar (nth bs s 2),an ar (nth bs s 3),an ar (nth bs s 4),an ar (nth bs s 5),av ia (xQ bs s).1.length ic,aw (ui bs s).1] 246 (0,0)):=by
    rw[g];have k:=aE (i:=7) a (aw (ui bs s).1);simpa using k
   have⟨b1,b2⟩:=eD.box d (P.o.trans c) B (aP _) X;have HF:=au (HR.o z _ ig (f.bH B (λb a=>by have:=r.o b a;simp;omega)) r.o b1 b2);have e7:=aF a 7 rfl;have f7:=bB a 7;have⟨m0,m1,m2,m3,m4,m5,m6,m7⟩:=Ou m;have O:=au g;clear d c a f g B m b1 b2;go_upto_region 26 with fail
   rw[<-O.o];clear e7 f7;go_wp2;exact HF.o
def aem{p:Nat}{bs:List Int}{s:Nat×Bool}(h:eD w p bs s)(k:Int)(e:k≠1)(f:k≠2)(g:k≠3)(i:k≠4)(j:k≠5):aj prog 129 #[p,(k:Int)] w (fW (gD bs k s).1 (gD bs k s).2 p bs w):=by
 have b:gD bs k s=(none,(s.1,true)):=by unfold gD;rw[aC e,aC f,aC g,aC i,aC j]
 rw[b];obtain⟨⟨v,c,n,q⟩,u,x,d⟩:=h;obtain⟨a,l⟩:=s;simp only at c d⊢;have m:=eD.set (s:=(a,l)) (t:=(a,true)) c n q u x (aQ.refl _ _) 2 (aw true) rfl d;have y:=au (show fW none (a,true) p bs w (ax .nilIface) (w.setCell ⟨p,2,none⟩ (aw true))from⟨av none 0 0,none,rfl,Seg.nil _ _ _,by simp,m.1,m.2⟩);have z:=aF c 2 rfl;have A:=bB c 2;have B:(k==1)=false:=by simpa using e
 have C:(k==2)=false:=by simpa using f
 have E:(k==3)=false:=by simpa using g
 have F:(k==4)=false:=by simpa using i
 have G:(k==5)=false:=by simpa using j
 generalize fW none (a,true) p bs w=Q at*;clear b c n q u m e f g i j;go_in;go_wp2;exact y.o
def Ul{p:Nat}{bs:List Int}{s:Nat×Bool}(h:eD w p bs s)(k:Int):aj prog 129 #[p,(k:Int)] w (fW (gD bs k s).1 (gD bs k s).2 p bs w):=by
 by_cases a:k=1
 .subst a;exact aea h
 by_cases b:k=2
 .subst b;exact aeb h
 by_cases c:k=3
 .subst c;exact aei h
 by_cases d:k=4
 .subst d;exact aek h
 by_cases e:k=5
 .subst e;exact aec h
 exact aem h k a b c d e
def pQ(n:Nat)(r:Option cd×(Nat×Bool)):Option cd×Int:=
 if r.2.2=true∨r.2.1≠n then(none,8)else match r.1 with
  |none=>(none,8)
  |some m=>if m.may then(some m,0)else(none,8)
def sQ(bs:List Int):Option cd×Int:=
 if bs.length<7∨1024<bs.length then(none,8)
 else if oD bs 0 2≠bs.length then(none,8)
 else if oD bs (bs.length-4) 4≠l_ (bs.take (bs.length-4))then(none,9)
 else pQ (bs.length-4) (gD (bs.take (bs.length-4)) (bs.getD 2 0) (3,false))
variable{r:Option cd×(Nat×Bool)}
def AO{n:Nat}(h:r.2.2=true∨r.2.1≠n):pQ n r=(none,8):=aI h
def JW{n:Nat}(h:¬(r.2.2=true∨r.2.1≠n)){m:cd}(a:r.1=some m):pQ n r=if m.may then(some m,0)else(none,8):=by unfold pQ;rw[aC h,a]
def QH{bs:List Int}{k:Int}{s:Nat×Bool}(h:(gD bs k s).1=none):(gD bs k s).2.2=true:=by
 unfold gD at h⊢;by_cases a:k=1
 .rw[aI a]at h;cases h
 by_cases b:k=2
 .rw[aC a,aI b]at h;cases h
 by_cases c:k=3
 .rw[aC a,aC b,aI c]at h;cases h
 by_cases d:k=4
 .rw[aC a,aC b,aC c,aI d]at h;cases h
 by_cases e:k=5
 .rw[aC a,aC b,aC c,aC d,aI e]at h;cases h
 rw[aC a,aC b,aC c,aC d,aC e]
def FW(l:List Int):(Go.strOfNums l).size=l.length:=by
 simp[Go.strOfNums,ByteArray.size]
def sR(bs:List Int)(s:Nat×Bool):(q_ bs s).1.size<=bs.length:=by
 unfold q_;cases h:wU bs s.1 with
 |none=>simp
 |some a=>
  obtain⟨t,q⟩:=a;simp only;unfold wU at h;split at h
  .simp only[bA,Prod.mk.injEq]at h
   rw[<-h.1,FW,dw,j8];omega
  .cases h
def xi(bs:List Int):∀(n:Nat) (s:Nat×Bool),∀x∈(iN bs n s).1,x.2.size<=bs.length
 |0,s=>by simp[iN]
 |n+1,s=>by
  unfold iN;split
  .simp
  .intro x a
   obtain rfl|a:=List.mem_cons.1 a
   .exact sR bs _
   .exact xi bs n _ x a
def XG{bs:List Int}{k:Int}{s:Nat×Bool}{m:cd}(h:(gD bs k s).1=some m)(c:bs.length<=1100){iv:ah}(a:aT rK 2 w iv m.items):m.rd w iv:=by
 unfold gD at h;split at h
 .simp only[bA]at h;subst h;trivial
 split at h
 .simp only[bA]at h;subst h;trivial
 split at h
 .simp only[bA]at h
  subst h;have d:=sR bs (JT bs s 5);have e:=sR bs (eW bs 1 (uh bs s).2).2;exact⟨show(q_ bs (JT bs s 5)).1.size<=maxLen by unfold maxLen;omega,show(q_ bs (eW bs 1 (uh bs s).2).2).1.size<=maxLen by unfold maxLen;omega⟩
 split at h
 .simp only[bA]at h
  subst h;exact⟨a,λx b=>by have:=xi bs _ _ x b;unfold maxLen;omega⟩
 split at h
 .simp only[bA]at h;subst h;trivial
 .cases h
def lW(o:Option cd)(n:Int)(w:ae)(e:ak)(w':ae):Prop:=
 ∃iv ig,e=ax (aM #[Uj iv o,(n:Int)])/\Seg w' 83 2 ig iv (dT (AN o)) (AN o).length/\(∀b,ig=some b->w.heap.size<=b)/\ai w w w'
def rQ{n:Int}{w w':ae}(h:ai w w w'):lW none n w (ax (aM #[.nilIface,n])) w':=⟨av none 0 0,none,rfl,Seg.nil _ _ _,by simp,h⟩
def sS{bs:List Int}(h:cQ bs)(n:Nat):cQ (bs.take n):=λx a=>h x (List.mem_of_mem_take a)
def XH(v:ah)(bs:List Int)(w:ae)(h:dc w .u8 v bs)(f:cQ bs):
 aj prog 99 #[v] w (lW (sQ bs).1 (sQ bs).2 w):=by
 have s:=au h;obtain⟨a,cap,rfl,hm,⟨U,_⟩,j⟩:=h;unfold maxLen at hm;by_cases k:bs.length<7∨1024<bs.length
 .have V:sQ bs=(none,8):=by unfold sQ;rw[aI k]
  rw[V];have i:=au (rQ (n:=8) (aO w w));generalize lW (Prod.fst (none,8)) (Prod.snd (none,8)) w=Q at*;clear V j f;obtain k|k:=k
  .have q1:(bs.length:Int)-4<3:=by omega
   clear k;go_in;go_wp2;exact i.o
  .have q1:¬(bs.length:Int)-4<3:=by omega
   have q2:(1024:Int)<bs.length:=by omega
   clear k;go_in;go_wp2;exact i.o
 have q1:¬(bs.length:Int)-4<3:=by omega
 have q2:¬(1024:Int)<bs.length:=by omega
 have L:=au (Qn _ bs 0 2 w s.o f (by decide) (by decide) (by decide));rw[aI (by omega)]at L;have⟨t,M⟩:=aD (oD bs 0 2);rw[<-M]at L;by_cases G:t=bs.length
 rotate_left
 .have V:sQ bs=(none,8):=by unfold sQ;rw[aC k,aI (by rw[<-M];exact G)]
  rw[V];have i:=au (rQ (n:=8) (aO w w));generalize lW (Prod.fst (none,8)) (Prod.snd (none,8)) w=Q at*;have b1:(t !=(bs.length:Int))=true:=by simpa using G
  clear V j f M G k;go_in;go_wp2_with fail
  refine aH L.o ?_;go_wp2;exact i.o
 have b1:(t !=(bs.length:Int))=false:=by simpa using G
 obtain⟨n,hn⟩:∃n,bs.length=n+4:=⟨bs.length-4,by omega⟩
 have A:=au (Qn _ bs n 4 w s.o f (by decide) (by decide) (by omega));rw[aI (by omega)]at A;have B:=zS s.o n (by omega);have HS:=au (WZ _ (bs.take n) w B);have W:0<=l_ (bs.take n)/\l_ (bs.take n)<=4294967295:=⟨bits_lo_u32 .xor _ _,bits_hi_u32 .xor _ _⟩;have⟨c0,c1⟩:=FV f n 4 (by decide);have l:sQ bs=if oD bs n 4≠l_ (bs.take n)then(none,(9:Int))else pQ n (gD (bs.take n) (bs.getD 2 0) (3,false)):=by
  unfold sQ;rw[aC k,aC (by rw[<-M];simpa using G),hn];simp only[Nat.add_sub_cancel]
 rw[l];generalize oD bs n 4=c at*;have⟨S,hS⟩:=aD (l_ (bs.take n));rw[<-hS]at HS W⊢;obtain⟨s0,s1⟩:=W;rw[hn]at L A s b1 q1 q2 U⊢;have hn3:3<=n:=by omega
 have hn4:n<=1020:=by omega
 have q4:¬(n:Int)<3:=by omega
 by_cases N:c=S
 rotate_left
 .rw[aI N]
  have i:=au (rQ (n:=9) (aO w w));generalize lW (Prod.fst (none,9)) (Prod.snd (none,9)) w=Q at*;have b2:(c !=S)=true:=by simpa using N
  clear j f M G k l hS N B;go_in;go_wp2_with fail
  refine aH L.o ?_;go_wp2_with fail
  refine aH A.o ?_;go_wp2_with fail
  refine aH HS.o ?_;go_wp2;exact i.o
 have b2:(c !=S)=false:=by simpa using N
 rw[aC (by simpa using N)];obtain⟨b,X,rfl,Y,H⟩:=j 2 (by omega);have⟨u,hu⟩:=aD (w.alloc (aB #[av (some ⟨b,X,none⟩) n cap,an ar 3,aw false] 256 (0,0)));have⟨g1,Z,gl⟩:=dt hu;have F:(bs.take n).length=n:=by rw[dw];omega
 have hrd:eD u w (bs.take n) (3,false):=⟨⟨_,g1,B.below Z.aJ,λa n c e=>by
  simp only[bG,bA]at e;obtain⟨rfl,_⟩:=e;exact Y⟩,sS f n,by omega,by rw[F];exact hn3⟩
 have⟨x,hx⟩:=aD (bs.getD 2 0);have hxb:=f (bs.getD 2 0) (by simp[aU,show 2<bs.length by omega]);rw[<-hx]at H hxb⊢;have d2:=(Z.aJ.cell (p:=⟨b,X+2,none⟩) Y).trans H;have⟨HM,QI⟩:=aK (Ul hrd x) (λ(o:cd) (ho:(gD (bs.take n) x (3,false)).1=some o) (y:ae) (iv:ah) hi=>XG ho (by omega) (w:=y) (iv:=iv) hi);have I:(gD (bs.take n) x (3,false)).1=none->(gD (bs.take n) x (3,false)).2.2=true:=QH;generalize gD (bs.take n) x (3,false)=r at*;have⟨R,hR⟩:=aD (pQ n r);have HR:=au hR;rw[<-hR];obtain⟨o,J,bad⟩:=r;simp only at HM QI I;have HNO:=au I;clear hR I;have⟨HU,HG⟩:=aK hu Z;obtain⟨x0,x1⟩:=hxb;have gg':=Z.size;clear j f M G k l hS N B hu g1 Z hrd hx F H;go_in;go_wp2_with fail
 refine aH L.o ?_;go_wp2_with fail
 refine aH A.o ?_;go_wp2_with fail
 refine aH HS.o ?_;go_upto_region 11 with fail
 rw[<-HU.o];go_wp2_with fail
 refine HM.m ?_;rintro e y ⟨iv,ig,rfl,d,C,hr,hc⟩;obtain⟨⟨v2,O,_,_⟩,_,_,_⟩:=hr;simp only at O;have m1:=aF O 1 rfl;have m2:=aF O 2 rfl;have P:=au (HG.o.aJ.trans (hc.below (by simp) (lH gl)));cases bad
 rotate_left
 .have e:R=(none,8):=by rw[HR.o];exact AO (.inl rfl)
  have i:=au (show lW R.1 R.2 w (ax (aM #[.nilIface,an ar 8])) y by rw[e];exact rQ P.o);clear O hc d C e;go_wp2;go_ret2;exact i.o
 by_cases q:J=n
 rotate_left
 .have e:R=(none,8):=by rw[HR.o];exact AO (.inr q)
  have i:=au (show lW R.1 R.2 w (ax (aM #[.nilIface,an ar 8])) y by rw[e];exact rQ P.o);have b3:((J:Int) !=(n:Int))=true:=by simp;omega
  clear O hc d C q e;go_wp2;go_ret2;exact i.o
 have b3:((J:Int) !=(n:Int))=false:=by simp[q]
 cases o with
 |none=>exact bL (HNO.o rfl) (by decide)
 |some m=>
  obtain⟨ia,il,ic,hiv⟩:∃a n c,iv=av a n c:=by
   have⟨a,c,e,_⟩:=d.len;exact⟨a,_,c,e⟩
  have g:=au (JJ m iv y ⟨ia,il,ic,hiv⟩ (QI.o m rfl y iv (T7 d)));have K:R=if m.may then(some m,0)else(none,8):=by rw[HR.o];exact JW (by simp[q]) rfl
  have⟨MP,HIG⟩:=aK d C;simp only at g⊢;generalize hmy:m.may=my at g K;have⟨mv,E⟩:=aD (m.val iv);rw[<-E]at g;rw[show Uj iv (some m)=mv from E.symm];have⟨HMV,HRM⟩:=aK E K;clear O hc d C q hiv hmy E K;cases my
  .go_wp2_with fail
   refine aN g.o ?_;intro z T;have i:=au (show lW R.1 R.2 w (ax (aM #[.nilIface,an ar 8])) z by rw[HRM.o];exact rQ (P.o.trans (T.mono P.o.size)));clear T;go_wp2;go_ret2;exact i.o
  .go_wp2_with fail
   refine aN g.o ?_;intro z T;have i:=au (show lW R.1 R.2 w (ax (aM #[mv,an ar 0])) z by rw[HRM.o,HMV.o];exact⟨iv,ig,rfl,MP.o.bH (ch T) (by simp),λb hb=>bD gg' (HIG.o b hb),P.o.trans (T.mono P.o.size)⟩);clear T;go_wp2;go_ret2;exact i.o
end Go.Proofs.YtjpnlfpompnpkaaGreat
