import Derived.Test.YtjpnlfpompnpkaaGreatP25
import Derived.Test.YtjpnlfpompnpkaaGreatP29
namespace Go.Proofs.YtjpnlfpompnpkaaGreat
open Go.RowKit Go.Proofs.Tryz
open Go.Value renaming int->an,slice->av,bool->aw,string->aA,tuple->aM,pointer->aL,agg->aG
open Go.IntKind renaming i64->ar
open Go.Ending renaming returned->ax
open Go.Obj renaming cells->aB
open Go renaming World->ae,Value->ah,Calls->aj
open Go.RowKit renaming Below->ai
set_option maxRecDepth 100000
set_option linter.all false
set_option maxHeartbeats 1000000
open Go.ChangeMaps mX
variable{P:Tg->Prop}{τ br:cj}{w w':ae}{c:aV}
def R3(x:Int)(y:Int)(z:Int)(w:ae):(Op.equalIn 10000 56 (aG #[(x:Int),(y:Int),(z:Int)]) (aG #[(x:Int),(y:Int),(z:Int)])).run prog w=.ok true w:=by
 have a:prog.underlying 56=some (.struct (prog.fieldsOf 56)):=by kernel_rfl
 show(Op.equalIn (9998+1+1) 56 _ _).run prog w=_
 rw[run_equalIn_struct w _ _ _ _ a (by kernel_rfl)];rw[show prog.fieldsOf 56=_ by unfold Program.fieldsOf;rw[underlying56]];refine gh (by decide) (run_part_plain w (by kernel_rfl) rfl) (run_part_plain w (by kernel_rfl) rfl) (mO _ _ _) ?_;refine gh (by decide) (run_part_plain w (by kernel_rfl) rfl) (run_part_plain w (by kernel_rfl) rfl) (mO _ _ _) ?_;refine gh (by decide) (run_part_plain w (by kernel_rfl) rfl) (run_part_plain w (by kernel_rfl) rfl) (mO _ _ _) ?_;rfl
def VV(x:Int)(y:Int)(z:Int)(w:ae):(binOp .neq 56 (aG #[(x:Int),(y:Int),(z:Int)]) (aG #[(x:Int),(y:Int),(z:Int)])).run prog w=.ok (aw false) w:=by
 rw[run_neq_struct,R3];rfl
def E7{q r:ah}{xs:List Int}(z:aT dX 1 w q xs)(A:aT dX 1 w r xs):aj prog 27 #[q,r] w λe w'=>e=ax (aw true)/\ai w w w':=by
 obtain⟨J,K,rfl,s,_,t⟩:=z;obtain⟨L,M,rfl,u,_,v⟩:=A;unfold maxLen at s u;have⟨N,j⟩:=aD xs.length;have⟨l,m,y⟩:=aX t v j;rw[<-j]at s u⊢;clear t v j;go_in;go_wp2;go_loopw [5] (λi wr=>∃k:Nat,k<=N/\i=an ar k/\ai w w wr) (λi _=>N-(intOf i).toNat)
 case atStart=>exact⟨0,bz _,rfl,aO _ _⟩
 case round=>
  obtain⟨k,O,rfl,a⟩:=hrel;by_cases f:k<N
  .obtain⟨B,C,rfl,g,b⟩:=l.o k (by rw[<-y.o];exact f)
   obtain⟨E,F,rfl,h,d⟩:=m.o k (by rw[<-y.o];exact f);generalize G:xs.getD k ()=x at b d;have H:=(a.cell (p:=⟨B,C+k*1+0,none⟩) g).trans (b 0 x rfl);have I:=(a.cell (p:=⟨E,F+k*1+0,none⟩) h).trans (d 0 x rfl);simp only[bM,Nat.mul_one]at H I;have Q:(0:Int)<=(k:Int):=by omega
   have T:(k:Int)<(N:Int):=by omega
   have n:=au a;clear b d G a g h;go_wp2;go_quiet (fail);go_wp2;go_roundw
   case rel=>exact⟨k+1,by omega,by go_num,below_drewN n.o _⟩
   case measure=>simp[intOf];omega
  .have n:=au a
   clear a;go_wp2;go_ret;exact⟨rfl,n.o⟩
def Br{u v:ah}{xs:List (Int×Int×Int)}(G:aT iE 3 w u xs)(H:aT iE 3 w v xs):aj prog 26 #[u,v] w λe w'=>e=ax (aw true)/\ai w w w':=by
 obtain⟨M,O,rfl,A,_,B⟩:=G;obtain⟨Q,T,rfl,C,_,E⟩:=H;unfold maxLen at A C;have⟨N,j⟩:=aD xs.length;have⟨l,m,F⟩:=aX B E j;rw[<-j]at A C⊢;clear B E j;go_in;go_wp2;go_loopw [5] (λi wr=>∃k:Nat,k<=N/\i=an ar k/\ai w w wr) (λi _=>N-(intOf i).toNat)
 case atStart=>exact⟨0,bz _,rfl,aO _ _⟩
 case round=>
  obtain⟨k,U,rfl,a⟩:=hrel;by_cases h:k<N
  .obtain⟨n,q,rfl,f,b⟩:=l.o k (by rw[<-F.o];exact h)
   obtain⟨r,s,rfl,g,d⟩:=m.o k (by rw[<-F.o];exact h);generalize I:xs.getD k ()=x at b d;obtain⟨x,y,z⟩:=x;have J:=(a.cell (p:=⟨n,q+k*3+0,none⟩) f).trans (b 0 x rfl);have K:=(a.cell (p:=⟨r,s+k*3+0,none⟩) g).trans (d 0 x rfl);have V:=(a.cell (p:=⟨n,q+k*3+1,none⟩) f).trans (b 1 y rfl);have W:=(a.cell (p:=⟨r,s+k*3+1,none⟩) g).trans (d 1 y rfl);have X:=(a.cell (p:=⟨n,q+k*3+2,none⟩) f).trans (b 2 z rfl);have Y:=(a.cell (p:=⟨r,s+k*3+2,none⟩) g).trans (d 2 z rfl);simp only[bM]at J K;have Z:(0:Int)<=(k:Int):=by omega
   have g2:(k:Int)<(N:Int):=by omega
   have L:=VV x y z;have t:=au a;clear b d I a f g;go_wp2;go_quiet (fail);go_wp2;go_roundw
   case rel=>exact⟨k+1,by omega,by go_num,below_drewN t.o _⟩
   case measure=>simp[intOf];omega
  .have t:=au a
   clear a;go_wp2;go_ret;exact⟨rfl,t.o⟩
variable{y z:ae}
def zP{B:Nat}{v:ah}{a:List cS}(h:iF B w v a){k:Nat}(O:k<a.length):∃b o s sa E l m F p,v=av (some ⟨b,o,none⟩) a.length s/\b<w.heap.size/\(∀j u,(qB (a[k]).ev.kind (a[k]).ev.node (a[k]).ev.at' (a[k]).ev.x (a[k]).ev.text (a[k]).ev.k (a[k]).ev.n (a[k]).verdict (a[k]).id (a[k]).got (av sa E l) (av m F p))[j]? =some u->w.cell? ⟨b,o+k*12+j,none⟩=some u)/\aT iE 3 w (av sa E l) (a[k]).sent/\aT dX 1 w (av m F p) (a[k]).lost:=by
 obtain⟨i,g,G,P,_,Q⟩:=h;have T:i.length=a.length:=by rw[<-G,cr]
 have d:k<i.length:=by omega
 have H:(i[k]).r=a[k]:=by
  have e:(i.map RcM.r)[k]? =a[k]? :=by rw[G]
  simpa[O,d]using e
 have⟨b,t,U,X,I,V,W⟩:=P.cell (by decide) k d;rw[T]at I;have⟨⟨A,_⟩,C,_⟩:=Q (i[k]) (eA d);rw[H]at A C;have⟨sa,l,J,_⟩:=A.len;have⟨m,p,K,_⟩:=C.len;have L:=aT.gP A (λ_=>rfl) (by decide);have M:=aT.gP C (λ_=>rfl) (by decide);rw[J]at L;rw[K]at M;refine⟨b,t,U,sa,_,l,m,_,p,I,V,λj u q=> ?_,L,M⟩;have N:j<12:=by
  obtain h|h:=Nat.lt_or_ge j 12
  .exact h
  .rw[oz (by simpa[qB]using h)]at q;cases q
 refine(W j u N ?_).1;rw[eT (f:=RcM.cells) (λ_=>rfl) _ _ _ d N];rw[<-J,<-K,<-H]at q;exact q
end Go.Proofs.YtjpnlfpompnpkaaGreat
