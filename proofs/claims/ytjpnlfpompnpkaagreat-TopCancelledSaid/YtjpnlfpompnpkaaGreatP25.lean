import Derived.Test.YtjpnlfpompnpkaaGreatP24
namespace Go.Proofs.YtjpnlfpompnpkaaGreat
open Go.RowKit Go.Proofs.Tryz
open Go.Value renaming int->an,slice->av,bool->aw,string->aA,tuple->aM,pointer->aL,agg->aG
open Go.IntKind renaming i64->ar
open Go.Ending renaming returned->ax
open Go.Obj renaming cells->aB
open Go renaming World->ae,Value->ah,Calls->aj,Ending->ak
open Go.RowKit renaming Below->ai
set_option maxRecDepth 100000
set_option linter.all false
set_option maxHeartbeats 1000000
open Go.ChangeMaps mX
variable{P:Tg->Prop}{τ br:cj}{w w':ae}{c:aV}
theorem Bo{a:Type}[Inhabited a]{xs:List a}{p:a->Prop}(h:∀j,j<xs.length->p (xs.getD j ())):∀x∈xs,p x:=λx d=>by
 obtain⟨i,b,rfl⟩:=List.mem_iff_getElem.1 d;have:=h i b;simpa[aU,b]using this
def KZ{v:ah}{xs:List ByteArray}(h:aT oR 1 w v xs):aj prog 56 #[v] w λe w'=>∃b,e=ax (aw b)/\w=w'/\(b=false->(xs.length:Int)<=80/\∀x∈xs,x.size<=100):=by
 obtain⟨a,H,rfl,y,I,z⟩:=h;unfold maxLen at y;have⟨N,m⟩:=aD xs.length;have⟨Q,n⟩:= @aD (ak->ae->Prop) (λe w'=>∃b,e=ax (aw b)/\w=w'/\(b=false->(xs.length:Int)<=80/\∀x∈xs,x.size<=100));have A:=au (show Q (ax (aw true)) w by rw[n];exact⟨true,rfl,rfl,λe=>by cases e⟩);have J:=au (show(N:Int)<=80->(∀j,j<N->(xs.getD j ()).size<=100)->Q (ax (aw (decide (80<(N:Int))))) w fromλB C=>by
  have K:decide (80<(N:Int))=false:=by simp;omega
  rw[n,K];rw[m]at B C;exact⟨false,rfl,rfl,λ_=>⟨B,Bo (p:=λx:ByteArray=>x.size<=100) C⟩⟩)
 have⟨L,M⟩:=aK z m;rw[<-n];rw[<-m]at y I⊢;clear n z m;by_cases q:(N:Int)<=80
 .have r:¬(80<(N:Int)):=by omega
  go_in;go_wp2;go_loopw [3] (λi wr=>∃k:Nat,k<=N/\i=an ar k/\w=wr/\∀j,j<k->(xs.getD j ()).size<=100) (λi _=>N-(intOf i).toNat)
  case atStart=>exact⟨0,bz _,rfl,rfl,λj E=>bL E (kG j)⟩
  case round=>
   obtain⟨k,V,rfl,rfl,d⟩:=hrel;have F:=au d;clear d;by_cases t:k<N
   .obtain⟨b,o,rfl,W,f⟩:=L.o k (by rw[<-M.o];exact t)
    have G:=f 0 _ rfl;have⟨s,u⟩:=aD (xs.getD k ());have O:=au u;have T:w.cell? ⟨b,o+k*1+0,none⟩=some (aA s):=by rw[u];exact G
    simp only[bM,Nat.mul_one]at T;have X:(0:Int)<=(k:Int):=by omega
    have Y:(k:Int)<(N:Int):=by omega
    clear G u f;by_cases g:s.size<=100
    .have l:¬(100<(s.size:Int)):=by omega
     go_wp2;go_roundw
     case rel=>exact⟨k+1,by omega,by go_num,by simp,λj E=>by
      by_cases e:j=k
      .rw[e,<-O.o];exact g
      .exact F.o j (by omega)⟩
     case measure=>simp[intOf];omega
    .have l:100<(s.size:Int):=by omega
     go_wp2;exact A.o
   .obtain rfl:k=N:=by omega
    have U:=au (J.o q F.o);go_wp2;exact U.o
 .have r:80<(N:Int):=by omega
  go_in;go_wp2;go_loopw [3] (λi wr=>i=an ar 0/\w=wr) (λ_ _=>0)
  case atStart=>exact⟨rfl,rfl⟩
  case round=>
   obtain⟨rfl,rfl⟩:=hrel;go_wp2;exact A.o
def p_{v:ah}{xs:List cO}(h:aT cO.cells 7 w v xs)(d:Int)(r:0<=d):aj prog 32 #[v,(d:Int)] w λe w'=>∃b,e=ax (aw b)/\w=w'/\(b=false->(xs.length:Int)<=d/\∀x∈xs,x.text.size<=100):=by
 obtain⟨a,J,rfl,A,K,B⟩:=h;unfold maxLen at A;have⟨N,n⟩:=aD xs.length;have⟨Q,q⟩:= @aD (ak->ae->Prop) (λe w'=>∃b,e=ax (aw b)/\w=w'/\(b=false->(xs.length:Int)<=d/\∀x∈xs,x.text.size<=100));have C:=au (show Q (ax (aw true)) w by rw[q];exact⟨true,rfl,rfl,λe=>by cases e⟩);have L:=au (show(N:Int)<=d->(∀j,j<N->(xs.getD j ()).text.size<=100)->Q (ax (aw (decide (d<(N:Int))))) w fromλE F=>by
  have M:decide (d<(N:Int))=false:=by simp;omega
  rw[q,M];rw[n]at E F;exact⟨false,rfl,rfl,λ_=>⟨E,Bo (p:=λx:cO=>x.text.size<=100) F⟩⟩)
 have⟨O,T⟩:=aK B n;rw[<-q];rw[<-n]at A K⊢;clear q B n;by_cases t:(N:Int)<=d
 .have u:¬(d<(N:Int)):=by omega
  go_in;go_wp2;go_loopw [5] (λi wr=>∃k:Nat,k<=N/\i=an ar k/\w=wr/\∀j,j<k->(xs.getD j ()).text.size<=100) (λi _=>N-(intOf i).toNat)
  case atStart=>exact⟨0,bz _,rfl,rfl,λj G=>bL G (kG j)⟩
  case round=>
   obtain⟨k,X,rfl,rfl,f⟩:=hrel;have H:=au f;clear f;by_cases y:k<N
   .obtain⟨b,o,rfl,Y,g⟩:=O.o k (by rw[<-T.o];exact y)
    have I:=g 4 _ rfl;have⟨s,z⟩:=aD ((xs.getD k ()).text);have U:=au z;have V:w.cell? ⟨b,o+k*7+4,none⟩=some (aA s):=by rw[z];exact I
    have _:=V;have Z:(0:Int)<=(k:Int):=by omega
    have g2:(k:Int)<(N:Int):=by omega
    clear I z g;by_cases l:s.size<=100
    .have m:¬(100<(s.size:Int)):=by omega
     go_wp2;go_roundw
     case rel=>exact⟨k+1,by omega,by go_num,by simp,λj G=>by
      by_cases e:j=k
      .rw[e,<-U.o];exact l
      .exact H.o j (by omega)⟩
     case measure=>simp[intOf];omega
    .have m:100<(s.size:Int):=by omega
     go_wp2;exact C.o
   .obtain rfl:k=N:=by omega
    have W:=au (L.o t H.o);go_wp2;exact W.o
 .have u:d<(N:Int):=by omega
  have h0:(0:Int)<(N:Int):=by omega
  go_in;go_wp2;go_loopw [5] (λi wr=>i=an ar 0/\w=wr) (λ_ _=>0)
  case atStart=>exact⟨rfl,rfl⟩
  case round=>
   obtain⟨rfl,rfl⟩:=hrel;go_wp2;exact C.o
def Gh{c:aV}(h:c.rd w):aj prog 41 #[c.val] w λe w'=>∃b,e=ax (aw b)/\ai w w w'/\(b=false->c.ok w):=by
 have⟨u,hu⟩:=aD (w.alloc (aB c.cells.toArray 25 (0,0)));have⟨z,hg,H⟩:=aV.box hu;have A:=H.aJ;have⟨Q,Y⟩:= @aD (ak->ae->Prop) (λe w'=>∃b,e=ax (aw b)/\ai w w w'/\(b=false->c.ok w));have Z:=au (show Q (ax (aw true)) u by rw[Y];exact⟨true,rfl,A,λe=>by cases e⟩);have HF:=au (show(∀j,j<c.cuts.length->(c.cuts.getD j ()).text.size<=100)->∀b,(b=false->(c.words.length:Int)<=80/\∀x∈c.words,x.size<=100)->∀d:Bool,(b=true->d=true)->Q (ax (aw d)) u fromλI b F d hd=>by
  rw[Y];refine⟨d,rfl,A,λe=> ?_⟩;cases b
  .have h2:=(F rfl).2
   exact⟨h.w,h.k,λs J=>bD (h2 s J) (by decide),λk hk=>bD (Bo (p:=λk:fI=>k.text.size<=100) I k hk) (by decide)⟩
  .rw[hd rfl]at e;cases e)
 have HG:=au (KZ (h.w.below A));have⟨ka,kc,K,km,_,B⟩:=h.k.below A;have⟨wa,wc,L,_⟩:=h.w;unfold maxLen at km;rw[<-Y];obtain⟨wv,cv,n,l,a,f,r,t,aS,v,first,G,g,net⟩:=c;simp only at K L;subst K L;simp only at B km HF HG;have⟨N,O⟩:=aD l.length;have⟨M,T⟩:=aD n.length;have h0:=z 0 _ rfl;have I:=z 1 _ rfl;have h2:=z 2 _ rfl;have h3:=z 3 _ rfl;have h4:=z 4 _ rfl;have h5:=z 5 _ rfl;have h6:=z 6 _ rfl;have h7:=z 7 _ rfl;have h8:=z 8 _ rfl;have h9:=z 9 _ rfl;have h10:=z 10 _ rfl;have h11:=z 11 _ rfl;simp only at h0 I;rw[<-O]at B km I;rw[<-T]at h0 HG;have⟨HN,HM⟩:=aK O T;have⟨q,hq⟩:=aD w.heap.size;rw[<-hq]at h0 I h2 h3 h4 h5 h6 h7 h8 h9 h10 h11;have⟨HQ,HR⟩:=aK hq B;have U:u=w.alloc (aB #[av wa M wc,av ka N kc,a,f,r,t,aS,v,first,G,g,net] 25 (0,0)):=by rw[T,O];exact hu
 have HU:=au U;have C:aV.val ⟨av wa n.length wc,av ka l.length kc,n,l,a,f,r,t,aS,v,first,G,g,net⟩=aG #[av wa M wc,av ka N kc,a,f,r,t,aS,v,first,G,g,net]:=by rw[T,O];rfl
 rw[C];clear Y hu U z H A B O T hq hg C h;by_cases h80:(N:Int)<=10
 .have h81:¬(10<(N:Int)):=by omega
  go_in;go_upto_region 1 with fail
  rw[<-HU.o,<-HQ.o];go_wp2;go_loopw [3] (λi wr=>∃k:Nat,k<=N/\i=an ar k/\u=wr/\∀j,j<k->(l.getD j ()).text.size<=100) (λi _=>N-(intOf i).toNat)
  case atStart=>exact⟨0,bz _,rfl,rfl,λj hj=>bL hj (kG j)⟩
  case round=>
   obtain⟨k,hk,rfl,rfl,E⟩:=hrel;have HA:=au E;clear E;by_cases hlt:k<N
   .obtain⟨b,o,rfl,F,V⟩:=HR.o k hlt
    have p0:=V 1 _ rfl;have⟨s,J⟩:=aD ((l.getD k ()).text);have HS:=au J;have p1:u.cell? ⟨b,o+k*2+1,none⟩=some (aA s):=by rw[J];exact p0
    have g1:(0:Int)<=(k:Int):=by omega
    have g2:(k:Int)<(N:Int):=by omega
    clear p0 J V;by_cases W:s.size<=100
    .have X:¬(100<(s.size:Int)):=by omega
     go_wp2;go_roundw
     case rel=>exact⟨k+1,by omega,by go_num,by simp,λj hj=>by
      by_cases e:j=k
      .rw[e,<-HS.o];exact W
      .exact HA.o j (by omega)⟩
     case measure=>simp[intOf];omega
    .have X:100<(s.size:Int):=by omega
     go_wp2;exact Z.o
   .obtain rfl:k=N:=by omega
    have HE:=au (HF.o (by rw[<-HN.o];exact HA.o));go_wp2_with fail
    refine HG.m ?_;rintro e y ⟨b,rfl,rfl,F⟩;cases b
    .have HE2:=au (HE.o false (by rw[<-HM.o];exact F) (decide (10<(k:Int))) (λe=>by cases e))
     clear F;go_wp2;exact HE2.o
    .go_wp2
     exact Z.o
 .have h81:10<(N:Int):=by omega
  go_in;go_upto_region 1 with fail
  rw[<-HU.o,<-HQ.o];go_wp2;go_loopw [3] (λi wr=>i=an ar 0/\u=wr) (λ_ _=>0)
  case atStart=>exact⟨rfl,rfl⟩
  case round=>
   obtain⟨rfl,rfl⟩:=hrel;go_wp2_with fail
   refine HG.m ?_;rintro e y ⟨b,rfl,rfl,F⟩;clear F;cases b
   .go_wp2
    exact Z.o
   .go_wp2
    exact Z.o
def qe{c:aV}{v:ah}{es:List cO}(h:c.rd w)(B:aT cO.cells 7 w v es)(d:Int)(hm:0<=d):
 aj prog 13 #[c.val,v,(d:Int)] w λe w'=>∃b,e=ax (aw b)/\ai w w w'/\(b=false->c.ok w/\(es.length:Int)<=d/\∀x∈es,x.text.size<=100):=by
 have⟨u,I⟩:=aD (w.alloc (aB c.cells.toArray 25 (0,0)));have⟨p,hg,E⟩:=aV.box I;have i:=E.aJ;have⟨J,HE⟩:=aK (Gh (h.below i)) (λy (r:ai u u y)=>p_ (w:=y) ((B.below i).below r) d hm);have⟨Q,G⟩:= @aD (ak->ae->Prop) (λe w'=>∃b,e=ax (aw b)/\ai w w w'/\(b=false->c.ok w/\(es.length:Int)<=d/\∀x∈es,x.text.size<=100));have HT:=au (show∀y,ai u u y->Q (ax (aw true)) y fromλy r=>by rw[G];exact⟨true,rfl,i.trans (r.mono i.size),λe=>by cases e⟩);have Y:=au (show∀y,ai u u y->c.ok u->∀b:Bool,(b=false->(es.length:Int)<=d/\∀x∈es,x.text.size<=100)->Q (ax (aw b)) y fromλy r H b K=>by
  rw[G];exact⟨b,rfl,i.trans (r.mono i.size),λe=>⟨⟨h.w,h.k,H.ws,H.cs⟩,K e⟩⟩)
 rw[<-G];obtain⟨va,vc,Z,_⟩:=B;have⟨N,hN⟩:=aD es.length;rw[<-hN]at Z;subst Z;have h0:=p 0 _ rfl;have H:=p 1 _ rfl;have K:=p 2 _ rfl;have h3:=p 3 _ rfl;have h4:=p 4 _ rfl;have h5:=p 5 _ rfl;have h6:=p 6 _ rfl;have h7:=p 7 _ rfl;have h8:=p 8 _ rfl;have h9:=p 9 _ rfl;have L:=p 10 _ rfl;have M:=p 11 _ rfl;have⟨q,O⟩:=aD w.heap.size;rw[<-O]at h0 H K h3 h4 h5 h6 h7 h8 h9 L M;have HQ:=au O;have⟨C,hC⟩:=aD c;obtain⟨T,U,t,F,a,f,j,l,aS,n,first,z,g,net⟩:=c;have s:aV.val ⟨T,U,t,F,a,f,j,l,aS,n,first,z,g,net⟩=aG #[T,U,a,f,j,l,aS,n,first,z,g,net]:=rfl;have HU:=au (show u=w.alloc (aB #[T,U,a,f,j,l,aS,n,first,z,g,net] 25 (0,0))from I);rw[s]at J⊢;rw[<-hC]at J Y;clear G I p E i hN O s h hC;go_in;go_upto_region 1 with fail
 rw[<-HU.o,<-HQ.o];go_wp2_with fail
 refine J.m ?_;rintro e y ⟨b,rfl,r,A⟩;have HY:=au r;cases b
 .have⟨V,W⟩:=aK (A rfl) (HE.o y r)
  clear A r;go_wp2_with fail
  refine W.m ?_;rintro e y2 ⟨b,rfl,rfl,A⟩;have X:=au (Y.o y HY.o V.o b A);clear A;go_wp2;exact X.o
 .have X:=au (HT.o y r)
  clear A r;go_wp2;exact X.o
variable{y z:ae}
def rF{es:List cO}(b:∀x∈es,x.text.size<=100)(d:∀x∈es,te x):∀x∈es,tj x:=λx a=>⟨(d x a).2.2.1,by have:=b x a;omega⟩
end Go.Proofs.YtjpnlfpompnpkaaGreat
