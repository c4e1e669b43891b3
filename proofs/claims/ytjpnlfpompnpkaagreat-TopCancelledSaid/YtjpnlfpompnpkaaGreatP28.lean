import Derived.Test.YtjpnlfpompnpkaaGreatP25
import Derived.Test.YtjpnlfpompnpkaaGreatP26
namespace Go.Proofs.YtjpnlfpompnpkaaGreat
open Go.RowKit Go.Proofs.Tryz
open Go.Value renaming int->an,slice->av,bool->aw,string->aA,tuple->aM,pointer->aL,agg->aG
open Go.IntKind renaming i64->ar
open Go.Ending renaming returned->ax
open Go.Obj renaming cells->aB
open Go renaming World->ae,Value->ah,Calls->aj
set_option maxRecDepth 100000
set_option linter.all false
set_option maxHeartbeats 1000000
open Go.ChangeMaps mX
variable{w w' u wr y z:ae}{c:aV}{K:Nat->Prop}{xb n:Nat}{x:di}{rs:List cS}
def N4{a:List bZ}{k:Nat}(b:k<a.length):fh (a.take (k+1))=fh (a.take k)+if(a[k]).live then 1 else 0:=by
 unfold fh;rw[fG b,List.countP_append,List.countP_singleton]
def Gj{B:Nat}{v:ah}{d:List bZ}(h:eM B w v d):aj prog 28 #[v] w λe w'=>e=ax (fh d:Int)/\w=w':=by
 obtain⟨a,c,rfl,_,H⟩:=h.len;unfold maxLen at H;have⟨N,p⟩:=aD d.length;have V:=au p;have Q:=au (show∀k,k<N->∃b o l,a=some ⟨b,o,none⟩/\b<w.heap.size/\w.cell? ⟨b,o+k*7+5,none⟩=some (aw (!l||(d.getD k ()).done))/\w.cell? ⟨b,o+k*7+6,none⟩=some (aw (d.getD k ()).cancelled)/\l=true fromλk I=>by
  have f:k<d.length:=by omega
  have⟨b,o,W,X,J,T,L,_⟩:=rX h f;simp only[bG]at J;have q:d.getD k ()=d[k]:=by simp[aU,f]
  rw[q];exact⟨b,o,true,J.1,T,L 5 _ rfl,L 6 _ rfl,rfl⟩)
 have⟨F,hF⟩:= @aD (Nat->Nat) (λk=>fh (d.take k));have⟨r,s⟩:=aK (show F 0=0 by rw[hF];rfl) (show F N=fh d by rw[hF,p];show fh (d.take d.length)=_;rw[fR]);have A:=au (show∀k,k<N->F (k+1)=F k+if(d.getD k ()).live then 1 else 0 fromλk I=>by
  have f:k<d.length:=by omega
  have q:d.getD k ()=d[k]:=by simp[aU,f]
  rw[hF,q];exact N4 f)
 have C:=au (show∀k,F k<=k fromλk=>by rw[hF];exact bD List.countP_le_length (by rw[dw];omega));rw[<-s.o];rw[<-p]at H⊢;clear p hF h;go_in;go_wp2;go_loopw [3,4] (λn i wr=>∃k:Nat,k<=N/\i=an ar k/\n=an ar (F k)/\w=wr) (λ_ i _=>N-(intOf i).toNat)
 case atStart=>exact⟨0,bz _,rfl,by rw[r.o];rfl,rfl⟩
 case round=>
  obtain⟨k,I,rfl,rfl,rfl⟩:=hrel;by_cases j:k<N
  .obtain⟨b,o,l,rfl,Y,M,O,rfl⟩:=Q.o k j
   have g:=A.o k j;have U:=C.o k;have Z:(0:Int)<=(k:Int):=by omega
   have q2:(k:Int)<(N:Int):=by omega
   have⟨t,P⟩:=aD (d.getD k ());rw[<-P]at M O g;obtain⟨id,text,kk,nn,E,done,m⟩:=t;simp only[Bool.not_true,Bool.false_or]at M;unfold bZ.live at g;simp only at g O;have q3:(F k:Int)<(N:Int):=by omega
   clear P;cases done<;>cases m
   .have G:=au (show F (k+1)=F k+1 by rw[g];rfl)
    clear g;go_wp2;go_roundw
    case rel=>exact⟨k+1,by omega,by go_num,by rw[G.o];go_num,trivial⟩
    case measure=>simp[intOf];omega
   all_goals
    have G:=au (show F (k+1)=F k by rw[g];rfl);clear g;go_wp2;go_roundw
    case rel=>exact⟨k+1,by omega,by go_num,by rw[G.o],trivial⟩
    case measure=>simp[intOf];omega
  .obtain rfl:k=N:=by omega
   go_wp2;go_ret;exact⟨rfl,rfl⟩
variable{x:cB}
def VU{x:cB}{id:Int}{y:ej}(h:x.q id=some y):y∈x.qs/\y.id=id:=by
 unfold cB.q at h;exact⟨List.mem_of_find?_eq_some h,by simpa using List.find?_some h⟩
end Go.Proofs.YtjpnlfpompnpkaaGreat
