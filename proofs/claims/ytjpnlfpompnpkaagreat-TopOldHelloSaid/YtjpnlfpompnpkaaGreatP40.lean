/-
  The law TopOldHello: for every input it returns true, and its arguments read as they did; under no condition but the row's.
-/
import Derived.Test.YtjpnlfpompnpkaaGreatP26
import Derived.Test.YtjpnlfpompnpkaaGreatP39
namespace Go.Proofs.YtjpnlfpompnpkaaGreat
open Go.RowKit Go.Proofs.Tryz
open Go.Value renaming int->an,slice->av,bool->aw,string->aA,tuple->aM,pointer->aL,agg->aG
open Go.IntKind renaming i64->ar
open Go.Ending renaming returned->ax
open Go.Obj renaming cells->aB
open Go renaming World->ae,Value->ah,Calls->aj,Ending->ak
open Go.RowKit renaming Below->ai
set_option maxRecDepth 100000
set_option linter.all false
set_option maxHeartbeats 2000000
open mX
def P0:List ByteArray:=[⟨#[97]⟩,⟨#[97,97]⟩,⟨#[97,98]⟩,⟨#[97,98,98,97]⟩,⟨#[98]⟩,⟨#[98,97]⟩,⟨#[195,169]⟩,⟨#[195,169,97]⟩,⟨#[230,151,165]⟩,⟨#[230,151,165,230,156,172]⟩,⟨#[230,151,165,230,156,172,232,170,158]⟩,⟨#[240,157,132,158]⟩,⟨#[240,157,132,158,97]⟩]
def qh(wv cv:ah):aV:=⟨wv,cv,P0,[⟨2,⟨#[]⟩⟩],2,2,1,2,1000,3,2,2,0,64⟩
def Fe(n i:Nat):List cO:=if i+1<n then [jX 4 1 0,jX 9 1 0,jX 10 1 0]else [jX 4 1 0]
def ju(n:Nat):Nat->List cO
 |0=> []
 |k+1=>ju n k++Fe n k
def nV(n:Nat):List cO:=ju n n++ [jX 5 0 ((n:Int)-1)]
def mV(n:Nat):Nat->List cO
 |0=>nV n
 |k+1=>mV n k++ [jX 5 0 0]
def V9(c:aV)(n:Nat):Bool:=((iQ c (nV n)).getD (ju n n).length default).sent.length==1&&mJ c.workers (bW c (nV n)).co.L 1==1&&((bW c (nV n)).ws.getD 0 ()).life==(n:Int)
def agA(c:aV)(n i:Nat):Bool:=((iQ c (mV n (i+1))).getD ((nV n).length+i) default).sent.length==0&&decide (0<=((iQ c (mV n (i+1))).getD ((nV n).length+i) default).got)
def ZK(c:aV)(n:Nat):Bool:=mJ c.workers (bW c (mV n n)).co.L 1==1&&((bW c (mV n n)).ws.getD 0 ()).up&&((bW c (mV n n)).ws.getD 0 ()).aW==1
def qi(c:aV)(n:Nat):Bool:=V9 c n&&(List.range (n-1)).all (agA c n)&&ZK c n
def Y1(a b:ah):fX (qh a b)=true:=by kernel_rfl
def ab6(a b:ah):qi (qh a b) 2=true:=by kernel_rfl
def ab7(a b:ah):qi (qh a b) 3=true:=by kernel_rfl
def ab8(a b:ah):qi (qh a b) 4=true:=by kernel_rfl
def ab9(a b:ah):qi (qh a b) 5=true:=by kernel_rfl
def aca(a b:ah):qi (qh a b) 6=true:=by kernel_rfl
def acb(a b:ah):qi (qh a b) 7=true:=by kernel_rfl
def acd(a b:ah):qi (qh a b) 8=true:=by kernel_rfl
open Go.ChangeMaps
def agB(w:ae):aj prog 52 #[] w λe y=>e=ax (av (some ⟨w,0,none⟩) 13 13)/\y.heap[w.heap.size]? =some (aB #[aA ⟨#[97]⟩,aA ⟨#[97,97]⟩,aA ⟨#[97,98]⟩,aA ⟨#[97,98,98,97]⟩,aA ⟨#[98]⟩,aA ⟨#[98,97]⟩,aA ⟨#[195,169]⟩,aA ⟨#[195,169,97]⟩,aA ⟨#[230,151,165]⟩,aA ⟨#[230,151,165,230,156,172]⟩,aA ⟨#[230,151,165,230,156,172,232,170,158]⟩,aA ⟨#[240,157,132,158]⟩,aA ⟨#[240,157,132,158,97]⟩] 9 (0,0))/\ai w w y:=by
 have⟨u,a⟩:=aD (w.alloc (aB #[aA ⟨#[97]⟩,aA ⟨#[97,97]⟩,aA ⟨#[97,98]⟩,aA ⟨#[97,98,98,97]⟩,aA ⟨#[98]⟩,aA ⟨#[98,97]⟩,aA ⟨#[195,169]⟩,aA ⟨#[195,169,97]⟩,aA ⟨#[230,151,165]⟩,aA ⟨#[230,151,165,230,156,172]⟩,aA ⟨#[230,151,165,230,156,172,232,170,158]⟩,aA ⟨#[240,157,132,158]⟩,aA ⟨#[240,157,132,158,97]⟩] 9 (0,0)));have b:u.heap[w.heap.size]? =some (aB #[aA ⟨#[97]⟩,aA ⟨#[97,97]⟩,aA ⟨#[97,98]⟩,aA ⟨#[97,98,98,97]⟩,aA ⟨#[98]⟩,aA ⟨#[98,97]⟩,aA ⟨#[195,169]⟩,aA ⟨#[195,169,97]⟩,aA ⟨#[230,151,165]⟩,aA ⟨#[230,151,165,230,156,172]⟩,aA ⟨#[230,151,165,230,156,172,232,170,158]⟩,aA ⟨#[240,157,132,158]⟩,aA ⟨#[240,157,132,158,97]⟩] 9 (0,0)):=by rw[a];exact a_ _ _
 have c:ai w w u:=by rw[a];exact(aO _ _).alloc (aP _) _
 have⟨d,f,g⟩:=aX a b c;clear a b c;go_in;go_wp2;rw[<-d.o];go_ret;exact⟨rfl,f.o,g.o⟩
def ak9(w:ae):aj prog 37 #[an ar 2,an ar 3] w λen w'=>∃C E,en=ax (qh C E).val/\(qh C E).ok w'/\ai w w w'/\(∃a n k,C=av a n k)/\∃a n k,E=av a n k:=by
 have⟨u,B⟩:=aD (w.alloc (aB #[(),(),an ar 0,an ar 0,an ar 0,an ar 0,an ar 0,an ar 0,an ar 0,an ar 0,an ar 0,an ar 0] 25 (0,0)));have l:ai w w u:=by rw[B];exact(aO _ _).alloc (aP _) _
 have⟨q,F⟩:=aD w.heap.size;have⟨p,P⟩:=aD u.heap.size;have r:u.heap[q]? =some (aB #[(),(),an ar 0,an ar 0,an ar 0,an ar 0,an ar 0,an ar 0,an ar 0,an ar 0,an ar 0,an ar 0] 25 (0,0)):=by rw[B,F];exact a_ _ _
 have⟨G,t,Q,HU,T,i⟩:=eC (agB u) l F B P r;clear B l F P r;go_in;go_upto_region 1 with fail
 rw[<-HU.o,<-Q.o];go_wp2_with fail
 refine G.m ?_;rintro e y ⟨rfl,g,j⟩;rw[<-T.o]at g⊢;have v:=(j.block q (az i.o)).trans i.o;have⟨r0,r1,r2,r3,r4,r5,r6,r7,r8,r9,Xm,TX⟩:=mD v;have fz:=bB v;have hl:=az v;have⟨b,d⟩:=aD (KV y q (av (some ⟨p,0,none⟩) 13 13) (av (some ⟨y,0,none⟩) 1 1) (2:Int) (2:Int) (1:Int) (2:Int) (1000:Int) (3:Int) (2:Int) (2:Int) (0:Int) (64:Int));have H:aQ [q] y b:=by rw[d];exact KW _ _ _ _ _ _ _ _ _ _ _ _ _ _
 have I:b.heap.size=y.heap.size:=by rw[d];exact EV _ _ _ _ _ _ _ _ _ _ _ _ _ _
 have J:b.heap[q]? =some (aB (qh (av (some ⟨p,0,none⟩) 13 13) (av (some ⟨y,0,none⟩) 1 1)).cells.toArray 25 (0,0)):=by rw[d];exact PQ v _ _ _ _ _ _ _ _ _ _ _ _
 have K:=Q.o;have L:=T.o;have z:p≠q:=by have:=az i.o;omega
 have M:b.heap[p]? =some (aB #[aA ⟨#[97]⟩,aA ⟨#[97,97]⟩,aA ⟨#[97,98]⟩,aA ⟨#[97,98,98,97]⟩,aA ⟨#[98]⟩,aA ⟨#[98,97]⟩,aA ⟨#[195,169]⟩,aA ⟨#[195,169,97]⟩,aA ⟨#[230,151,165]⟩,aA ⟨#[230,151,165,230,156,172]⟩,aA ⟨#[230,151,165,230,156,172,232,170,158]⟩,aA ⟨#[240,157,132,158]⟩,aA ⟨#[240,157,132,158,97]⟩] 9 (0,0)):=(H.block p (az g) (by simpa using z)).trans g;have HF:=au (show(b.alloc (aB #[an ar 2,aA ⟨#[]⟩] 116 (0,0))).heap[q]? =some (aB (qh (av (some ⟨p,0,none⟩) 13 13) (av (some ⟨y,0,none⟩) 1 1)).cells.toArray 25 (0,0))from(fH _ _ _ (az J)).trans J);have U:(b.alloc (aB #[an ar 2,aA ⟨#[]⟩] 116 (0,0))).heap[p]? =some (aB #[aA ⟨#[97]⟩,aA ⟨#[97,97]⟩,aA ⟨#[97,98]⟩,aA ⟨#[97,98,98,97]⟩,aA ⟨#[98]⟩,aA ⟨#[98,97]⟩,aA ⟨#[195,169]⟩,aA ⟨#[195,169,97]⟩,aA ⟨#[230,151,165]⟩,aA ⟨#[230,151,165,230,156,172]⟩,aA ⟨#[230,151,165,230,156,172,232,170,158]⟩,aA ⟨#[240,157,132,158]⟩,aA ⟨#[240,157,132,158,97]⟩] 9 (0,0)):=(fH _ _ _ (az M)).trans M;have V:(b.alloc (aB #[an ar 2,aA ⟨#[]⟩] 116 (0,0))).heap[y.heap.size]? =some (aB #[an ar 2,aA ⟨#[]⟩] 116 (0,0)):=by rw[<-I];exact a_ _ _
 have h:ai w w y:=t.o.trans (j.mono t.o.size);have W:ai w w (b.alloc (aB #[an ar 2,aA ⟨#[]⟩] 116 (0,0))):=(h.trans (H.below (λx hx=>by simp only[cm]at hx;omega) h.size)).alloc (by rw[I];exact h.size) _;have A:(qh (av (some ⟨p,0,none⟩) 13 13) (av (some ⟨y,0,none⟩) 1 1)).ok (b.alloc (aB #[an ar 2,aA ⟨#[]⟩] 116 (0,0))):=by
  refine⟨?_,?_,?_,?_⟩
  .have N:Own p 9 1 (b.alloc (aB #[an ar 2,aA ⟨#[]⟩] 116 (0,0))) (av (some ⟨p,0,none⟩) 13 13) (P0.flatMap oR) 13:=⟨rfl,.inr ⟨_,13,_,rfl,aP _,U,aP _,by decide,rfl,rfl⟩⟩
   exact aT.sJ (f:=oR) (xs:=P0) N (λ_=>rfl) (by decide)
  .have N:Own y 116 2 (b.alloc (aB #[an ar 2,aA ⟨#[]⟩] 116 (0,0))) (av (some ⟨y,0,none⟩) 1 1) [an ar 2,aA ⟨#[]⟩] 1:=⟨rfl,.inr ⟨_,1,_,rfl,aP _,V,aP _,by decide,rfl,rfl⟩⟩
   exact aT.sJ (f:=fI.cells) (xs:=[⟨2,⟨#[]⟩⟩]) N (λ_=>rfl) (by decide)
  .intro s X
   simp only[qh,P0,bQ,ez,or_false]at X;rcases X with rfl|rfl|rfl|rfl|rfl|rfl|rfl|rfl|rfl|rfl|rfl|rfl|rfl<;>decide
  .intro k Y
   simp only[qh,cm]at Y;rw[Y];decide
 have⟨O,HB,HW⟩:=aX A W d;clear d H I J V W A g j v M U h K L z;go_wp2_with fail
 have Z:=HW.o;unfold KV at Z;rw[<-Z];refine fS (dV rfl rfl (PR (c:=qh (av (some ⟨p,0,none⟩) 13 13) (av (some ⟨y,0,none⟩) 1 1)) rfl rfl HF.o)) rfl ?_;exact⟨_,_,rfl,O.o,HB.o,⟨_,_,_,rfl⟩,_,_,_,rfl⟩
variable{P:Tg->Prop}{τ br:cj}{w w' y z:ae}{c:aV}
def Sg(a b:ah){m:Nat}(d:2<=m)(e:m<=8):qi (qh a b) m=true:=by
 have:m=2∨m=3∨m=4∨m=5∨m=6∨m=7∨m=8:=by omega
 obtain rfl|rfl|rfl|rfl|rfl|rfl|rfl:=this
 .exact ab6 _ _
 .exact ab7 _ _
 .exact ab8 _ _
 .exact ab9 _ _
 .exact aca _ _
 .exact acb _ _
 .exact acd _ _
def wK(n:Nat):∀k,(ju n k).length<=3*k
 |0=>aP _
 |k+1=>by
  have:=wK n k;unfold ju Fe;rw[bF];split<;>simp only[cG,dx]<;>omega
def Sh{n k:Nat}(h:k+1<n):ju n (k+1)=ju n k++ [jX 4 1 0]++ [jX 9 1 0]++ [jX 10 1 0]:=by
 show ju n k++Fe n k=_
 unfold Fe;rw[aI h];simp
def V_{n k:Nat}(h:¬k+1<n):ju n (k+1)=ju n k++ [jX 4 1 0]:=by
 show ju n k++Fe n k=_
 unfold Fe;rw[aC h]
def Ca(n:Nat):∀k,(mV n k).length=(nV n).length+k
 |0=>rfl
 |k+1=>by
  unfold mV;rw[bF,Ca n k];rfl
def Si(l:Int)(w:ae):aj prog 12 #[(l:Int)] w λe w'=>e=ax (aw true)/\ai w w w':=by
 have⟨lw,Xx⟩:=aD (low l 7);have lb:=sH l 7 (by decide);have HLW:=au (ZP l 7 w (by decide) (by decide));rw[<-Xx]at HLW lb;obtain⟨m,hm⟩:∃m:Nat,2+lw=(m:Int):=⟨(2+lw).toNat,by omega⟩
 have hm2:2<=m:=by omega
 have hm8:m<=8:=by omega
 have⟨HM,HTW⟩:=aK hm (ak9 w);have⟨Q,hQ⟩:= @aD (ak->ae->Prop) (λe w'=>e=ax (aw true)/\ai w w w');have⟨HQW,s⟩:=aK (show∀y,ai w w y->Q (ax (aw true)) y by rw[hQ];exactλy h=>⟨rfl,h⟩) (show∀(W X at':Int) (w:ae),aj prog 16 #[W,X,at'] w λen w'=>en=ax (aG #[an ar W,an ar X,an ar at',an ar 0,aA ⟨#[]⟩,an ar 0,an ar 0])/\ai w w w' from evC);rw[<-hQ];obtain⟨lb1,lb2⟩:=lb;clear hQ Xx hm;go_in;go_wp2_with fail
 refine aH HLW.o ?_;go_wp2_with fail
 refine HTW.m ?_;rintro e y1 ⟨wv,cv,rfl,hok,hb1,⟨wa,wn,wk,rfl⟩,ca,cn,ck,rfl⟩;rw[HM.o];have⟨C,hC⟩:=aD (qh (av wa wn wk) (av ca cn ck));rw[<-hC]at hok;have hcv:C.val=aG #[av wa wn wk,av ca cn ck,an ar 2,an ar 2,an ar 1,an ar 2,an ar 1000,an ar 3,an ar 2,an ar 2,an ar 0,an ar 64]:=by rw[hC];rfl
 rw[show(qh (av wa wn wk) (av ca cn ck)).val=aG #[av wa wn wk,av ca cn ck,an ar 2,an ar 2,an ar 1,an ar 2,an ar 1000,an ar 3,an ar 2,an ar 2,an ar 0,an ar 64]from rfl];have⟨t,F⟩:=aD (y1.alloc (aB #[av wa wn wk,av ca cn ck,an ar 2,an ar 2,an ar 1,an ar 2,an ar 1000,an ar 3,an ar 2,an ar 2,an ar 0,an ar 64] 25 (0,0)));have⟨q,hq⟩:=aD y1.heap.size;have G:ai y1 y1 t:=by rw[F];exact(aO _ _).alloc (aP _) _
 have hbx:t.heap[q]? =some (aB #[av wa wn wk,av ca cn ck,an ar 2,an ar 2,an ar 1,an ar 2,an ar 1000,an ar 3,an ar 2,an ar 2,an ar 0,an ar 64] 25 (0,0)):=by rw[F,hq];exact a_ _ _
 have E8:=au (tz (c:=C) (hok.below G));rw[hcv]at E8;have ql:=az hbx;have⟨h0,h1,H,h3,h4,h5,h6,h7,h8,h9,h10,h11⟩:=mD hbx;have uG:=au (show∀y,ai t t y->aj prog 14 #[] y λe z=>e=ax (aw true)/\Q (ax (aw true)) z fromλy hy=>(nS y).mono λe z ⟨h1,H⟩=>⟨h1,HQW.o z (hb1.trans ((G.trans ((hy.trans (H.mono hy.size)).mono G.size)).mono hb1.size))⟩);have hh:=Sg (av wa wn wk) (av ca cn ck) hm2 hm8;rw[<-hC]at hh;unfold qi at hh;simp only[cV,pC,List.mem_range]at hh;obtain⟨⟨hf,ho⟩,I⟩:=hh;unfold V9 at hf;unfold ZK at I;simp only[cV,beq_iff_eq]at hf I;have⟨HF,HLA⟩:=aK hf I;have HO:=au (show∀i,i<m-1->((iQ C (mV m (i+1))).getD ((nV m).length+i) default).sent.length=0/\0<=((iQ C (mV m (i+1))).getD ((nV m).length+i) default).got fromλi hi=>by
  have:=ho i hi;unfold agA at this;simpa using this)
 have hwo:C.workers=2:=by rw[hC];rfl
 have⟨HWS,Rt,HY2,HQ,Uv⟩:=iI (show∀L y u,EW C u t L y->0<(bW C L).ws.length fromλL y u h=>by have:=h.1.ok.wl;rw[hwo]at this;omega) (show fX C=true by rw[hC];exact Y1 _ _) F hq (show∀k,k<=m->(ju m k).length<=24 fromλk hk=>by have:=wK m k;omega);have J:=au (show∀k,k<=m->(mV m k).length<=100 fromλk hk=>by
  have h1:=wK m m;have H:=Ca m k;unfold nV at H;simp only[bF,cG,dx]at H;omega)
 clear F hq G hbx hC hok hcv hf ho I hwo lb1 lb2 hb1;go_upto_region 3 with fail
 rw[<-HY2.o,<-HQ.o];go_wp2_with fail
 refine E8.m ?_;rintro e y3 ⟨hy3,⟨hm0,rfl⟩|⟨_,u,rfl,hl⟩⟩
 .have:=Rt.o
  rw[hm0]at this;cases this
 .have HR0:=au (show EW C u t [] y3 from⟨hl,hy3⟩)
  clear h0 h1 H h3 h4 h5 h6 h7 h8 h9 h10 h11 ql hy3 hl;go_wp2;go_loopw [6] (λi wr=>∃k:Nat,k<=m/\i=an ar k/\EW C u t (ju m k) wr) (λi _=>m-(intOf i).toNat)
  case atStart=>exact⟨0,bz _,rfl,HR0.o⟩
  case round=>
   obtain⟨k,hk,rfl,b⟩:=hrel;by_cases hlt:k<m
   .have hl0:=Uv.o k hk
    have q1:(k:Int)<(m:Int):=by omega
    go_wp2_with fail
    refine(s.o 4 1 0 _).mono ?_;rintro e z1a ⟨rfl,f⟩;have v:=au (EW.ev (b.E5 f) (by omega) (k:=4) (nd:=1) (a:=0) (eN (by omega) (by omega)));clear f b;go_wp2_with fail
    refine v.m ?_;rintro e r ⟨K,id,M,sn,N,j,O,T,U,rfl,b,g,d⟩;by_cases H:k+1<m
    .have q2:(k:Int)<(m:Int)-1:=by omega
     clear g d;go_wp2_with fail
     refine(s.o 9 1 0 _).mono ?_;rintro e z2a ⟨rfl,f⟩;have v:=au (EW.ev (b.E5 f) (by rw[bF];simp only[cG,dx];omega) (k:=9) (nd:=1) (a:=0) (eN (by omega) (by omega)));clear f b;go_wp2_with fail
     refine v.m ?_;rintro e z2 ⟨K,id,M,sn,N,j,O,T,U,rfl,b,g,d⟩;clear g d;go_wp2_with fail
     refine(s.o 10 1 0 _).mono ?_;rintro e z3a ⟨rfl,f⟩;have v:=au (EW.ev (b.E5 f) (by rw[bF,bF];simp only[cG,dx];omega) (k:=10) (nd:=1) (a:=0) (eN (by omega) (by omega)));clear f b;go_wp2_with fail
     refine v.m ?_;rintro e z3 ⟨K,id,M,sn,N,j,O,T,U,rfl,b,g,d⟩;have x:ju m (k+1)=ju m k++ [jX 4 1 0]++ [jX 9 1 0]++ [jX 10 1 0]:=Sh H;rw[<-x]at b;have HR:=au b;clear b g d x;go_wp2;go_roundw
     case rel=>exact⟨k+1,by omega,by go_num,HR.o⟩
     case measure=>simp[intOf];omega
    .have q2:¬(k:Int)<(m:Int)-1:=by omega
     have x:ju m (k+1)=ju m k++ [jX 4 1 0]:=V_ H;rw[<-x]at b;have HR:=au b;clear b g d x;go_wp2;go_roundw
     case rel=>exact⟨k+1,by omega,by go_num,HR.o⟩
     case measure=>simp[intOf];omega
   .have V:k=m:=by omega
    rw[V]at b⊢;clear V hlt hk;have hl0:=Uv.o m (aP _);go_wp2_with fail
    refine(s.o 5 0 ((m:Int)-1) _).mono ?_;rintro e z1a ⟨rfl,f⟩;have v:=au (EW.ev (b.E5 f) (by omega) (k:=5) (nd:=0) (a:=(m:Int)-1) (eN (by omega) (by omega)));clear f b;go_wp2_with fail
    refine v.m ?_;rintro e r ⟨K,id,M,sn,N,j,O,T,U,rfl,b,g,d⟩;clear d;have b:EW C u t (nV m) r:=b;have alc:sn=1:=g.trans HF.o.1.1;subst alc;have⟨Y,n⟩:=aD (r.alloc (aB #[an ar 5,an ar 0,an ar ((m:Int)-1),an ar 0,aA ⟨#[]⟩,an ar 0,an ar 0,an ar K,an ar id,av M 1 N,an ar j,av O T U] 45 (0,0)));have A:ai r r Y:=by rw[n];exact(aO _ _).alloc (aP _) _
    have p:Y.heap[r.heap.size]? =some (aB #[an ar 5,an ar 0,an ar ((m:Int)-1),an ar 0,aA ⟨#[]⟩,an ar 0,an ar 0,an ar K,an ar id,av M 1 N,an ar j,av O T U] 45 (0,0)):=by rw[n];exact a_ _ _
    have b:=b.E5 A;have d9:=aF p 9 rfl;have d10:=aF p 10 rfl;have zl:=az p;have Pa:=au n;clear n A p;have hco:=b.1.co (by have:=J.o 0 (bz _);unfold mV at this;omega);obtain⟨cb,k1,_,_,k4,_⟩:=hco;have se:=au k1;have HC4:=au (show aj prog 38 #[cb,an ar 1] Y (λe z=>e=ax (1:Int)/\Y=z)by
     have:=k4 1;rw[HF.o.1.2]at this;exact this)
    have⟨bx,B⟩:=b.1.wk 0 (HWS.o _ _ _ b);have⟨YK,HR⟩:=aK (show aj prog 22 #[aL (some ⟨u,0,none⟩),an ar 1] Y _ from B) b;clear k1 k4 B b g;go_upto_region 14 with fail
    rw[<-Pa.o];go_wp2_with fail
    refine aH se.o ?_;go_wp2_with fail
    refine aH HC4.o ?_;go_wp2_with fail
    refine YK.m ?_;rintro e z3 ⟨rfl,E,hlf,_⟩;rw[HF.o.2]at hlf;have⟨HLF,HR3⟩:=aK hlf (show EW C u t (mV m 0) z3 from HR.o.E5 E);clear hlf E d9 d10 zl;go_wp2_with fail
    refine aH HLF.o ?_;go_wp2;go_loopw [8] (λi wr=>∃k:Nat,k<=m-1/\i=an ar k/\EW C u t (mV m k) wr) (λi _=>m-1-(intOf i).toNat)
    case atStart=>exact⟨0,bz _,rfl,HR3.o⟩
    case round=>
     obtain⟨k,hk,rfl,b⟩:=hrel;by_cases hlt:k<m-1
     .have hl1:=J.o k (by omega)
      have q1:(k:Int)<(m:Int)-1:=by omega
      go_wp2_with fail
      refine(s.o 5 0 0 _).mono ?_;rintro e z1a ⟨rfl,f⟩;have v:=au (EW.ev (b.E5 f) (by omega) (k:=5) (nd:=0) (a:=0) (eN (by omega) (by omega)));clear f b;go_wp2_with fail
      refine v.m ?_;rintro e r ⟨K,id,M,sn,N,j,O,T,U,rfl,b,g,d⟩;have b:EW C u t (mV m (k+1)) r:=b;have⟨o1,o2⟩:=HO.o k hlt;have hln:=Ca m k;have ald:sn=0:=by rw[g,hln];exact o1
      have hg0:0<=j:=by rw[d,hln];exact o2
      subst ald;have⟨Y,n⟩:=aD (r.alloc (aB #[an ar 5,an ar 0,an ar (0),an ar 0,aA ⟨#[]⟩,an ar 0,an ar 0,an ar K,an ar id,av M 0 N,an ar j,av O T U] 45 (0,0)));have A:ai r r Y:=by rw[n];exact(aO _ _).alloc (aP _) _
      have p:Y.heap[r.heap.size]? =some (aB #[an ar 5,an ar 0,an ar (0),an ar 0,aA ⟨#[]⟩,an ar 0,an ar 0,an ar K,an ar id,av M 0 N,an ar j,av O T U] 45 (0,0)):=by rw[n];exact a_ _ _
      have b:=b.E5 A;have d9:=aF p 9 rfl;have d10:=aF p 10 rfl;have zl:=az p;have Pa:=au n;clear n A p;have HR:=au b;clear b g d o1 o2 hln;go_upto_region 20 with fail
      rw[<-Pa.o];go_wp2;go_roundw
      case rel=>exact⟨k+1,by omega,by go_num,HR.o⟩
      case measure=>simp[intOf];omega
     .have V:k=m-1:=by omega
      have hl1:=J.o k (by omega);have q1:¬(k:Int)<(m:Int)-1:=by omega
      go_wp2_with fail
      refine(s.o 5 0 0 _).mono ?_;rintro e z1a ⟨rfl,f⟩;have v:=au (EW.ev (b.E5 f) (by omega) (k:=5) (nd:=0) (a:=0) (eN (by omega) (by omega)));clear f b;go_wp2_with fail
      refine v.m ?_;rintro e r ⟨K,id,M,sn,N,j,O,T,U,rfl,b,g,d⟩;have b:EW C u t (mV m (k+1)) r:=b;have Z:k+1=m:=by omega
      rw[Z]at b;clear g d;have⟨cb,k1,_,_,k4,_⟩:=b.1.co (by have:=J.o m (aP _);omega);have se:=au k1;have HC4:=au (show aj prog 38 #[cb,an ar 1] r (λe z=>e=ax (1:Int)/\r=z)by
       have:=k4 1;rw[HLA.o.1.1]at this;exact this)
      have⟨bx,B⟩:=b.1.wk 0 (HWS.o _ _ _ b);have⟨YK,HBR⟩:=aK (show aj prog 22 #[aL (some ⟨u,0,none⟩),an ar 1] r _ from B) b.2;clear k1 k4 B b V Z;go_wp2_with fail
      refine aH se.o ?_;go_wp2_with fail
      refine aH HC4.o ?_;go_wp2_with fail
      refine YK.m ?_;rintro e z3 ⟨rfl,E,_,hep⟩;rw[HLA.o.1.2,HLA.o.2]at hep;have⟨HEP,HA⟩:=aK (show aj prog 40 #[bx] z3 (λe z=>e=ax (1:Int)/\z3=z)from hep) (uG.o z3 (HBR.o.trans (E.mono HBR.o.size)));clear hep E;go_wp2_with fail
      refine aH HEP.o ?_;go_wp2_with fail
      refine HA.m ?_;rintro e z4 ⟨rfl,hz4⟩;have HE:=au hz4;clear hz4;go_wp2;exact HE.o
open Go.ChangeShapes Go.WideShapes Go.ChangeAt
def tE(l:Os)(a:l.Started)(H:Type)(enc:TypeId×ah->H):
 ReturnsInHanded {} Tryz.checked l 12 .any (Rows.topOldHelloSpec.pre6 enc prog Tryz.f12 Rows.topOldHelloRow.domain false) (Rows.topOldHelloSpec.post enc prog Tryz.f12 false true false false):=by
 refine returnsInHanded_of_change (C:=Tryz.checked) yd a (by kernel_rfl) func12
  (ChangeSpec.witness6 (enc:=enc) (C:=Tryz.checked) false ⟨#[],#[an ar 0],[]⟩ 8 (by kernel_rfl) (by kernel_rfl) (by kernel_rfl) (by kernel_rfl)) ?_
 intro W base args w K f b n _ _;have c:∀(j:Nat) t v,Tryz.f12.params[j]? =some t->args[j]? =some v->Value.okWide prog W .any base t v:=b
 have g:=n;obtain⟨p,q,sr,y,rfl,_,_⟩:=n;have o:DataW.TrodAll enc prog W 0 (λ_=>true) true Tryz.f12.params.toList args.toList w p:=sr;rw[Tryz.params12]at o c;obtain⟨r,z,L,A,B,M,i,rfl,rfl,s,E⟩:=trodAll_cons o;obtain⟨rfl,rfl,rfl⟩:=trodAll_nil E;obtain rfl:args= #[r]:=by cases args;simp_all
 obtain⟨rfl,rfl⟩:=trodVars_none y;have u:=s;have k:∀x∈B,x.block<W.heap.size:=by obtain⟨m,F⟩:=u;exact DataW.trod_lt m _ _ _ F
 obtain⟨G,rfl,I,_,N⟩:=open_int underlying3 (c 0 3 r rfl rfl) s;clear sr b;refine(Si G W).mono λe O ⟨J,d⟩=> ?_
 subst J;exact⟨_,rfl,_,_,_,[],_,[],g,trodAll_mk1 (shut_bool underlying4 _),(trodAll_cons_mk (Below.trod pw (by kernel_rfl) (of_decide_eq_true (by kernel_rfl)) u d k) trodAll_mk0),rfl,d.frame _,λh=>by cases h⟩
theorem P1:Rows.TopOldHelloSaid:=
 OpenClaim.holds_of_wide 12 Tryz.f12 rfl rfl rfl rfl rfl rfl rfl ⟨rfl,rfl,rfl,rfl,rfl⟩ rfl rfl rfl rfl rfl (by kernel_rfl) func12 uK
  (of_decide_eq_true (by kernel_rfl)) (by unfold Func.isWrapper;rw[aC (of_decide_eq_false (by kernel_rfl))];exact⟨rfl,rfl⟩)
  (λb a H enc _=>tE b a H enc)
end Go.Proofs.YtjpnlfpompnpkaaGreat
