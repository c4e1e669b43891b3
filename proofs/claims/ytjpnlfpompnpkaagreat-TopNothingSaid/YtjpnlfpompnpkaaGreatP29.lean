import Derived.Test.YtjpnlfpompnpkaaGreatP27
namespace Go.Proofs.YtjpnlfpompnpkaaGreat
open Go.RowKit Go.Proofs.Tryz
open Go.Value renaming int->an,slice->av,bool->aw,string->aA,tuple->aM,pointer->aL,agg->aG
open Go.IntKind renaming i64->ar
open Go.Ending renaming returned->ax
open Go.Obj renaming cells->aB
open Go renaming World->ae,Value->ah,Calls->aj
open Go.RowKit renaming Below->ai
set_option maxRecDepth 100000
set_option linter.all false
set_option maxHeartbeats 1000000
open Go.ChangeMaps mX
variable{P:Tg->Prop}{τ br:cj}{w w':ae}{c:aV}
def tA{B1 B2:Nat}{C E:ah}{xs:List bZ}(A:eM B1 w C xs)(B:eM B2 w E xs):aj prog 18 #[C,E] w λe w'=>e=ax (aw true)/\ai w w w':=by
 obtain⟨a1,c1,rfl,_,M⟩:=A.len;obtain⟨a2,c2,rfl,_,O⟩:=B.len;unfold maxLen at M O;have⟨N,Q⟩:=aD xs.length;have⟨HR1,HR2⟩:=aK A B;rw[<-Q]at M O⊢;have HH:=au (show∀wr,ai w w wr->∀k,k<N->∃id text g n done a s x v y h l m p q r,a1=some ⟨s,x,none⟩/\a2=some ⟨v,y,none⟩/\s<wr.heap.size/\v<wr.heap.size/\
  (∀j u,(R0 id text g n (av h l m) done a)[j]? =some u->wr.cell? ⟨s,x+k*7+j,none⟩=some u)/\(∀j u,(R0 id text g n (av p q r) done a)[j]? =some u->wr.cell? ⟨v,y+k*7+j,none⟩=some u)/\
  ∀z,ai wr wr z->aj prog 35 #[aG #[an ar id,aA text,an ar g,an ar n,av h l m,aw done,aw a],aG #[an ar id,aA text,an ar g,an ar n,av p q r,aw done,aw a]] z λe w'=>e=ax (aw true)/\ai z z w' fromλwr T k hk=>by
  have⟨t,ht⟩:=aD (xs[k]'(by omega));have⟨s,x,cp1,C,U,V,d,F⟩:=rX (A.below T) (k:=k) (by omega);have⟨v,y,cp2,E,W,X,f,G⟩:=rX (B.below T) (k:=k) (by omega);rw[<-ht]at d f F G;simp only[bG]at U W;obtain⟨rfl,_⟩:=U;obtain⟨rfl,_⟩:=W;obtain⟨id,text,g,n,H,done,a⟩:=t;have I:=F;have J:=G;obtain⟨i1,j1,rfl,_⟩:=I;obtain⟨i2,j2,rfl,_⟩:=J;exact⟨id,text,g,n,done,a,s,x,v,y,i1,_,j1,i2,_,j2,rfl,rfl,V,X,d,f,λz Y=>E6 id text g n done a (F.below Y) (G.below Y)⟩)
 clear A B Q;go_in;go_wp2;go_loopw [5] (λi wr=>∃k:Nat,k<=N/\i=an ar k/\ai w w wr) (λi _=>N-(intOf i).toNat)
 case atStart=>exact⟨0,bz _,rfl,aO _ _⟩
 case round=>
  obtain⟨k,hk,rfl,b⟩:=hrel;by_cases K:k<N
  .obtain⟨id,text,g,n,done,a,s,x,v,y,h,l,m,p,q,r,rfl,rfl,V,X,d,f,Z⟩:=HH.o wr b k K
   have p0:=d 0 (an ar id) rfl;have r0:=f 0 (an ar id) rfl;have p1:=d 1 (aA text) rfl;have r1:=f 1 (aA text) rfl;have p2:=d 2 (an ar g) rfl;have r2:=f 2 (an ar g) rfl;have p3:=d 3 (an ar n) rfl;have r3:=f 3 (an ar n) rfl;have p4:=d 4 (av h l m) rfl;have r4:=f 4 (av p q r) rfl;have p5:=d 5 (aw done) rfl;have r5:=f 5 (aw done) rfl;have p6:=d 6 (aw a) rfl;have r6:=f 6 (aw a) rfl;simp only[bM]at p0 r0;have g1:(0:Int)<=(k:Int):=by omega
   have g2:(k:Int)<(N:Int):=by omega
   have⟨L,HC⟩:=aK b Z;clear Z d f b;go_upto_region 6 with fail
   refine cD (by kernel_rfl) (by kernel_rfl) ?_
   repeat (go_big_quiet_step (first|(go_at_call 35;exact cH (HC.o _ (bX _ _)))|fail))
   refine eV ?_;rintro _ ⟨u,rfl⟩;have HX:=au (gR L.o (aP _) u);go_wp2;go_roundw
   case rel=>exact⟨k+1,by omega,by go_num,HX.o⟩
   case measure=>simp[intOf];omega
  .have L:=au b
   clear b;go_wp2;go_ret;exact⟨rfl,L.o⟩
end Go.Proofs.YtjpnlfpompnpkaaGreat
