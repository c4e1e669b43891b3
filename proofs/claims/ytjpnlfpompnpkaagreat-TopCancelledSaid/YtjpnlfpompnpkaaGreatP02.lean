import Derived.ArgAppend
import Derived.Test.YtjpnlfpompnpkaaGreatP00
namespace Go.Proofs.YtjpnlfpompnpkaaGreat
open Go.RowKit Go.Proofs.Tryz
open Go.Value renaming int->an,slice->av,bool->aw,string->aA,tuple->aM,pointer->aL,agg->aG
open Go.IntKind renaming i64->ar
open Go.Ending renaming returned->ax
open Go.Obj renaming cells->aB
open Go renaming World->ae,Value->ah
set_option maxRecDepth 100000
set_option linter.all false
section
def su(cur:Array ah):Nat->List ah->Array ah
 |_,[]=>cur
 |o,v::r=>su (cur.setIfInBounds o v) (o+1) r
def j9:∀(b:List ah) (a:Array ah) (o:Nat),(su a o b).size=a.size
 | [],_,_=>rfl
 |v::r,a,o=>by rw[su,j9];simp
def oP:∀(b:List ah) (a:Array ah) (o i:Nat),o+b.length<=a.size->(su a o b)[i]? =if o<=i/\i<o+b.length then b[i-o]? else a[i]?
 | [],a,o,i,_=>by simp[su];intro c d;omega
 |v::r,a,o,i,h=>by
  simp at h;rw[su,oP r _ _ _ (by simp;omega)];simp only[pB,cG];by_cases c:i=o
  .subst c
   rw[aC (by omega),aI rfl,aI (by omega),aI (by omega)];simp
  .by_cases d:o+1<=i/\i<o+1+r.length
   .rw[aI d,aI (by omega)]
    obtain⟨k,rfl⟩:∃k,i=o+1+k:=⟨i-(o+1),by omega⟩
    rw[show o+1+k-(o+1)=k by omega,show o+1+k-o=k+1 by omega];rfl
   .rw[aC d,aC (λe=>c e.symm),aC (by omega)]
def iB:∀(d:List ah) (w:ae) (b o:Nat) (a:Array ah) (t:TypeId) (c:Nat×Nat),w.heap[b]? =some (aB a t c)->(w.setCells b o d).heap[b]? =some (aB (su a o d) t c)
 | [],_,_,_,_,_,_,h=>h
 |v::r,w,b,o,a,t,c,h=>by
  rw[World.setCells,su];exact iB r _ b (o+1) _ t c (aE h v)
def kI:∀(a:List ah) (w:ae) (b o:Nat),aQ [b] w (w.setCells b o a)
 | [],w,_,_=>aQ.refl _ w
 |v::r,w,b,o=>by
  rw[World.setCells];exact((aQ.refl [b] w).setCell ⟨b,o,none⟩ (by simp) v).trans (kI r _ b (o+1))
def Seg(w:ae)(e sz:Nat)(g:Option Nat)(v:ah)(cs:List ah)(n:Nat):Prop:=
 cs.length=n*sz/\((g=none/\v=av none 0 0/\n=0)∨
  ∃b off cap cur,g=some b/\v=av (some ⟨b,off,none⟩) n cap/\w.heap[b]? =some (aB cur e (0,0))/\n<=cap/\cap<=maxLen/\off+cap*sz<=cur.size/\∀j,j<n*sz->cur[off+j]? =cs[j]?)
variable{w:ae}{e sz:Nat}{g:Option Nat}{v:ah}{cs:List ah}{n:Nat}
def Seg.nil(w:ae)(e sz:Nat):Seg w e sz none () [] 0:=⟨by simp,.inl ⟨rfl,rfl,rfl⟩⟩
def Seg.lt(h:Seg w e sz g v cs n):∀b,g=some b->b<w.heap.size:=by
 rintro b rfl;obtain⟨_,⟨h,_⟩|⟨j,a,c,d,f,_,i,_⟩⟩:=h
 .cases h
 .cases f
  exact az i
def Seg.bH{w':ae}{S:List Nat}(h:Seg w e sz g v cs n)(i:aQ S w w')(j:∀b,g=some b->b∉S):Seg w' e sz g v cs n:=by
 obtain⟨f,h|⟨b,a,c,d,rfl,k,l,r⟩⟩:=h
 .exact⟨f,.inl h⟩
 .exact⟨f,.inr ⟨b,a,c,d,rfl,k,i.at l (j b rfl),r⟩⟩
def Seg.zu{B:Nat}(h:w.ownsRow B e sz v n cs):∃g,Seg w e sz g v cs n/\∀b,g=some b->B<=b:=by
 obtain⟨f,⟨rfl,rfl⟩|⟨b,a,c,rfl,i,k,l,m,r,o⟩⟩:=h
 .have:cs=[]:=List.length_eq_zero_iff.1 (by omega)
  subst this;exact⟨none,Seg.nil _ _ _,λb p=>by cases p⟩
 .refine⟨some b,⟨f,.inr ⟨b,0,a,c,rfl,rfl,k,l,m,by omega,λj q=> ?_⟩⟩,λs d=>by cases d;exact i⟩
  rw[eJ,<-o,List.getElem?_take_of_lt q,Array.getElem?_toList]
def Seg.len(h:Seg w e sz g v cs n):∃a c,v=av a n c/\n<=c/\n<=maxLen:=by
 obtain⟨_,⟨_,rfl,rfl⟩|⟨b,d,c,f,_,rfl,_,i,j,_⟩⟩:=h
 .exact⟨none,0,rfl,aP _,bz _⟩
 .exact⟨_,c,rfl,i,by omega⟩
def Seg.cell(h:Seg w e sz g v cs n)(p:0<sz)(i:Nat)(k:i<n):∃b a c,g=some b/\v=av (some ⟨b,a,none⟩) n c/\b<w.heap.size/\
 ∀j u,j<sz->cs[i*sz+j]? =some u->w.cell? ⟨b,a+i*sz+j,none⟩=some u/\w.frozen? ⟨b,a+i*sz+j,none⟩=false:=by
 obtain⟨_,⟨_,rfl,rfl⟩|⟨b,a,c,l,rfl,rfl,d,q,r,s,m⟩⟩:=h
 .omega
 .refine⟨b,a,c,rfl,rfl,az d,λj u t o=>⟨?_,?_⟩⟩
  .have f:i*sz+j<n*sz:=by
    have:(i+1)*sz<=n*sz:=Nat.mul_le_mul_right _ k;rw[Nat.add_mul]at this;omega
   simp only[World.cell?,d];rw[Nat.add_assoc,m _ f,o];rfl
  .simp[World.frozen?,d]
def Seg.append{P:Program}(h:Seg w e sz g v cs n)(t:TypeId)(i:TypeInfo)(z:ah)(bytes:Nat)(M:P.underlying t=some (.slice e))(N:P.info? e=some i)(Z:i.zero=some z)(f:i.size=sz)(C:i.bytes=bytes)
 (E:z.cells.size=sz) (F:0<sz) (a:Addr) (m c:Nat) (hm:0<m) (d:List ah) (K:d.length=m*sz) (p:∀j u,d[j]? =some u->w.cell? (a.add j)=some u) (h1:∀u∈d,u.oneCell'=true)
 (G:n+m<=maxLen) (r:(n+m)*bytes<=140737488355328):
 ∃v' w' g',(∀O,(Builtin.append_ #[t,t] O #[v,av (some a) m c]).run P w=.ok v' w')/\Seg w' e sz g' v' (cs++d) (n+m)/\aQ g.toList w w'/\(g'=g∨∃b,g'=some b/\w.heap.size<=b)/\g'.isSome:=by
 have H:(cs++d).length=(n+m)*sz:=by rw[bF,h.1,K,Nat.add_mul]
 obtain⟨y,⟨rfl,rfl,rfl⟩|⟨b,l,o,x,rfl,rfl,L,h2,h3,h4,h5⟩⟩:=h
 .have Q:cs=[]:=List.length_eq_zero_iff.1 (by omega)
  subst Q;have⟨v',w',T,U,s,hn⟩:=run_append_own (P:=P) (w:=w) w t 0 e i z sz bytes M N Z f C E F () 0 [] (World.ownsRow_nil _ _ _ _) a m c d K p h1 G r (aP _);have⟨g',B,V⟩:=Seg.zu U;have W:aQ [] w w':=⟨s.os,s.tape,s.output,s.size,λk X _=>s.block k X (by simp[Value.ownBlock])⟩;refine⟨v',w',g',λ_=>T,B,W,?_,?_⟩
  .cases g' with
   |none=>exact .inl rfl
   |some b=>exact .inr ⟨b,rfl,V b rfl⟩
  .cases g' with
   |none=>
    obtain⟨_,⟨_,_,h0⟩|⟨b,l,o,x,I,_⟩⟩:=B
    .omega
    .cases I
   |some b=>rfl
 .by_cases q:n+m<=o
  .have hms:n*sz+m*sz<=o*sz:=by rw[<-Nat.add_mul];exact Nat.mul_le_mul_right _ q
   refine⟨_,_,some b,λO=>run_append_room_cells (P:=P) w t O e i M N b l n o a m c d (by rw[f];exact K) p h1 q (λj J=> ?_) (λj J=> ?_),⟨H,.inr ⟨b,l,o,su x (l+n*i.size) d,rfl,rfl,iB _ _ _ _ _ _ _ L,q,h3,?_,λj J=> ?_⟩⟩,kI _ _ _ _,.inl rfl,rfl⟩
   .rw[f]
    simp only[World.cell?,L];rw[Array.getElem?_eq_getElem (by omega)];rfl
   .simp[World.frozen?,L]
   .rw[j9];exact h4
   .rw[oP _ _ _ _ (by rw[f];omega),f]
    by_cases Y:j<n*sz
    .rw[aC (by omega),h5 j Y,gZ (by omega)]
    .rw[Nat.add_mul]at J
     rw[aI (by omega),g_ (by omega),y];congr 1;omega
  .have A:∀j u,cs[j]? =some u->w.cell? ((⟨b,l,none⟩:Addr).add j)=some u:=λj u hu=>by
    have J:j<n*sz:=by rw[<-y];exact(List.getElem?_eq_some_iff.1 hu).1
    have e:(⟨b,l,none⟩:Addr).add j=⟨b,l+j,none⟩:=by cases j<;>simp[Addr.add]
    rw[e];simp only[World.cell?,L];rw[h5 j J,hu];rfl
   have⟨v',w',T,U,s⟩:=run_append_arg_grows (P:=P) w t 0 e i z sz bytes M N Z f C E F ⟨b,l,none⟩ n o cs y A a m c d K p (by omega) G r;have⟨g',B,V⟩:=Seg.zu U;have W:aQ [b] w w':=⟨s.os,s.tape,s.output,s.size,λk X _=>s.block k X (by simp)⟩;refine⟨v',w',g',λ_=>T,B,W,?_,?_⟩
   .cases g' with
     |none=>
      obtain⟨_,⟨_,_,h0⟩|⟨b,l,o,x,I,_⟩⟩:=B
      .omega
      .cases I
     |some b'=>exact .inr ⟨b',rfl,V b' rfl⟩
   .cases g' with
     |none=>
      obtain⟨_,⟨_,_,h0⟩|⟨b,l,o,x,I,_⟩⟩:=B
      .omega
      .cases I
     |some b=>rfl
def Seg.tail{f d a:Nat}{x:List ah}(h:Seg w e sz (some f) (av (some ⟨f,d,none⟩) (n+1) a) (x++cs) (n+1))(m:x.length=sz):
 Seg w e sz (some f) (av (if a=1 then some ⟨f,d,none⟩else some ⟨f,d+sz,none⟩) n (a-1)) cs n:=by
 obtain⟨u,⟨y,_⟩|⟨b,o,p,i,q,r,s,E,F,G,z⟩⟩:=h
 .cases y
 .simp only[bA]at q
  subst q;simp only[bG,bA,dr,et,bK]at r;obtain⟨rfl,rfl⟩:=r;have A:(n+1)*sz=n*sz+sz:=by rw[Nat.add_mul];omega
  have k:cs.length=n*sz:=by rw[bF,m,A]at u;omega
  have t:a*sz=(a-1)*sz+sz:=by
   obtain⟨c,rfl⟩:∃c,a=c+1:=⟨a-1,by omega⟩
   rw[Nat.add_sub_cancel,Nat.add_mul];omega
  refine⟨k,.inr ?_⟩;by_cases l:a=1
  .have B:n=0:=by omega
   subst B;exact⟨f,d,a-1,i,rfl,by rw[aI l],s,by omega,by omega,by subst l;simp;omega,λj C=>by omega⟩
  .refine⟨f,d+sz,a-1,i,rfl,by rw[aC l],s,by omega,by omega,by omega,λj C=> ?_⟩
   have:=z (sz+j) (by omega);rw[<-Nat.add_assoc]at this;rw[this,g_ (by omega),m];congr 1;omega
end
section
namespace ZS
def ne(x y:Int):Nat:=if x=y then 0 else 1
def lU:List Int->List Int->Nat
 | [],b=>b.length
 |x::a,[]=>(x::a).length
 |x::a,y::b=>min (min (lU a (y::b)+1) (lU (x::a) b+1)) (lU a b+ne x y)
termination_by a b=>a.length+b.length
def rJ(b:List Int):lU [] b=b.length:=by rw[lU]
def qO(a:List Int):lU a []=a.length:=by cases a<;>rw[lU]<;>rfl
def l6(x y:Int)(a b:List Int):lU (x::a) (y::b)=min (min (lU a (y::b)+1) (lU (x::a) b+1)) (lU a b+ne x y):=by rw[lU]
inductive Ed:List Int->List Int->Nat->Prop
 |nil:Ed [] [] 0
 |ins {a b:List Int} {n:Nat} (y:Int):Ed a b n->Ed a (y::b) (n+1)
 |del {a b:List Int} {n:Nat} (x:Int):Ed a b n->Ed (x::a) b (n+1)
 |sub {a b:List Int} {n:Nat} (x y:Int):Ed a b n->Ed (x::a) (y::b) (n+ne x y)
def S8:∀b:List Int,Ed [] b b.length
 | []=>.nil
 |y::b=>.ins y (S8 b)
def Oy:∀a:List Int,Ed a [] a.length
 | []=>.nil
 |x::a=>.del x (Oy a)
def pF(a b:List Int):Ed a b (lU a b):=by
 match a,b with
 | [],b=>rw[rJ];exact S8 b
 |x::a,[]=>rw[qO];exact Oy (x::a)
 |x::a,y::b=>
  have d:=pF a (y::b);have e:=pF (x::a) b;have c:=pF a b;rw[l6];obtain h|h:=Nat.le_total (lU a (y::b)+1) (lU (x::a) b+1)
  .rw[Nat.min_eq_left h]
   obtain g|g:=Nat.le_total (lU a (y::b)+1) (lU a b+ne x y)
   .rw[Nat.min_eq_left g];exact .del x d
   .rw[Nat.min_eq_right g];exact .sub x y c
  .rw[Nat.min_eq_right h]
   obtain g|g:=Nat.le_total (lU (x::a) b+1) (lU a b+ne x y)
   .rw[Nat.min_eq_left g];exact .ins y e
   .rw[Nat.min_eq_right g];exact .sub x y c
termination_by a.length+b.length
def WJ(x:Int)(a b:List Int):lU (x::a) b<=lU a b+1:=by
 cases b with
 |nil=>rw[qO,qO];simp
 |cons y b=>rw[l6];omega
def Oz(y:Int)(a b:List Int):lU a (y::b)<=lU a b+1:=by
 cases a with
 |nil=>rw[rJ,rJ];simp
 |cons x a=>rw[l6];omega
def OA(x y:Int)(a b:List Int):lU (x::a) (y::b)<=lU a b+ne x y:=by rw[l6];omega
variable{a b:List Int}{n:Nat}
def uR(h:Ed a b n):lU a b<=n:=by
 induction h with
 |nil=>rw[rJ];simp
 |ins y _ c=>exact bD (Oz y _ _) (by omega)
 |del x _ c=>exact bD (WJ x _ _) (by omega)
 |sub x y _ c=>exact bD (OA x y _ _) (by omega)
def WK(x y:Int):ne x y=ne y x:=by unfold ne;by_cases h:x=y<;>simp[h,eq_comm]
def zw(x:Int):ne x x=0:=by simp[ne]
def adb(x y:Int):ne x y<=1:=by unfold ne;split<;>omega
def ZT(x y z:Int):ne x z<=ne x y+ne y z:=by
 unfold ne;by_cases c:x=y
 .subst c;simp
 .rw[aC c];split<;>omega
def OB(h:Ed a b n):Ed b a n:=by
 induction h with
 |nil=>exact .nil
 |ins y _ c=>exact .del y c
 |del x _ c=>exact .ins x c
 |sub x y _ c=>rw[WK];exact .sub y x c
def zZ(a b:List Int):lU a b=lU b a:=Nat.le_antisymm (uR (OB (pF b a))) (uR (OB (pF a b)))
def OC:∀a:List Int,Ed a a 0
 | []=>.nil
 |x::a=>by have:=Ed.sub x x (OC a);rwa [zw]at this
def S9(a:List Int):lU a a=0:=by have:=uR (OC a);omega
def S_(h:Ed a b n):∀{c:List Int} {m:Nat},Ed b c m->∃k,k<=n+m/\Ed a c k:=by
 induction h with
 |nil=>intro c m g;exact⟨m,by omega,g⟩
 | @del a b n x h d=>
  intro c m g;have⟨k,f,e⟩:=d g;exact⟨k+1,by omega,.del x e⟩
 | @ins a b n y h d=>
  intro c
  induction c with
  |nil=>
   intro m g;cases g with
   |del _ g=>have⟨k,f,e⟩:=d g;exact⟨k,by omega,e⟩
  |cons z c i=>
   intro m g;cases g with
   |ins _ g=>have⟨k,f,e⟩:=i g;exact⟨k+1,by omega,.ins z e⟩
   |del _ g=>have⟨k,f,e⟩:=d g;exact⟨k,by omega,e⟩
   |sub _ _ g=>have⟨k,f,e⟩:=d g;exact⟨k+1,by omega,.ins z e⟩
 | @sub a b n x y h d=>
  intro c
  induction c with
  |nil=>
   intro m g;cases g with
   |del _ g=>have⟨k,f,e⟩:=d g;exact⟨k+1,by omega,.del x e⟩
  |cons z c i=>
   intro m g;cases g with
   |ins _ g=>have⟨k,f,e⟩:=i g;exact⟨k+1,by omega,.ins z e⟩
   |del _ g=>have⟨k,f,e⟩:=d g;exact⟨k+1,by omega,.del x e⟩
   |sub _ _ g=>
    have⟨k,f,e⟩:=d g;have:=ZT x y z;exact⟨k+ne x z,by omega,.sub x z e⟩
def zx(a b c:List Int):lU a c<=lU a b+lU b c:=by
 have⟨k,d,e⟩:=S_ (pF a b) (pF b c);exact bD (uR e) d
def uS(h:Ed a b n):∀{c d:List Int} {m:Nat},Ed c d m->Ed (a++c) (b++d) (n+m):=by
 induction h with
 |nil=>intro c d m g;simpa using g
 | @ins a b n y _ e=>intro c d m g;have:=Ed.ins y (e g);rw[show n+1+m=n+m+1 by omega];exact this
 | @del a b n x _ e=>intro c d m g;have:=Ed.del x (e g);rw[show n+1+m=n+m+1 by omega];exact this
 | @sub a b n x y _ e=>intro c d m g;have:=Ed.sub x y (e g);rw[show n+ne x y+m=n+m+ne x y by omega];exact this
def z_(h:Ed a b n):Ed a.reverse b.reverse n:=by
 induction h with
 |nil=>exact .nil
 |ins y _ c=>rw[List.reverse_cons];have:=uS c (Ed.ins y .nil);simpa using this
 |del x _ c=>rw[List.reverse_cons];have:=uS c (Ed.del x .nil);simpa using this
 |sub x y _ c=>rw[List.reverse_cons,List.reverse_cons];have:=uS c (Ed.sub x y .nil);simpa using this
def wP(a b:List Int):lU a.reverse b.reverse=lU a b:=
 Nat.le_antisymm (uR (z_ (pF a b))) (by have:=uR (z_ (pF a.reverse b.reverse));simpa using this)
def OD:∀a b:List Int,lU a b<=max a.length b.length
 | [],b=>by rw[rJ];simp
 |x::a,[]=>by rw[qO];simp
 |x::a,y::b=>by
  have h:=OD a b;have:=adb x y;rw[l6];simp only[cG];omega
def D(a b:List Int)(i k:Nat):Int:=(lU (a.take i).reverse (b.take k).reverse:Int)
def Ta(a b:List Int)(k:Nat)(c:k<=b.length):D a b 0 k=k:=by
 unfold D;simp only[List.take_zero,List.reverse_nil,rJ,List.length_reverse,dw];omega
def WM(a b:List Int)(i:Nat)(c:i<=a.length):D a b i 0=i:=by
 unfold D;simp only[List.take_zero,List.reverse_nil,qO,List.length_reverse,dw];omega
def I_(a:List Int)(i:Nat)(h:i<a.length):(a.take (i+1)).reverse=a.getD i 0::(a.take i).reverse:=by
 rw[fG h,List.reverse_append];simp[aU,h]
def ZU(a b:List Int)(i k:Nat)(c:i<a.length)(d:k<b.length):
 D a b (i+1) (k+1)=min (min (D a b i (k+1)+1) (D a b (i+1) k+1)) (D a b i k+(if a.getD i 0=b.getD k 0 then 0 else 1)):=by
 unfold D;rw[I_ a i c,I_ b k d,l6];unfold ne;split<;>omega
def WN(a b:List Int):D a b a.length b.length=lU a b:=by
 unfold D;rw[jY (aP _),jY (aP _),wP]
def Y9(a b:List Int)(i k:Nat):D a b i k=(lU (a.take i) (b.take k):Int):=by
 unfold D;rw[wP]
def ahJ(a b:List Int)(i k:Nat)(c:i<=a.length)(d:k<=b.length):0<=D a b i k/\D a b i k<=max i k:=by
 unfold D;have:=OD (a.take i).reverse (b.take k).reverse;simp only[List.length_reverse,dw]at this;omega
end ZS
end
section
namespace ZS
def Fq(x:Int)(a:List Int):lU a (x::a)<=1:=by
 have:=Oz x a a;rw[S9]at this;omega
def Tb(x:Int)(a b:List Int):lU (x::a) (x::b)=lU a b:=by
 have c:=OA x x a b;rw[zw]at c;have e:=zx a (x::b) b;have d:=Fq x b;rw[zZ]at d;have f:=zx a (x::a) b;have g:=Fq x a;rw[l6,zw];rw[l6,zw]at c;omega
def P_(p a b:List Int):lU (p++a) (p++b)=lU a b:=by
 induction p with
 |nil=>rfl
 |cons x p c=>rw[List.cons_append,List.cons_append,Tb,c]
def Tc(x a b:List Int)(h:lU x a<=1):lU x b<=lU a b+1/\lU a b<=lU x b+1:=by
 have d:=zx x a b;have c:=zx a x b;rw[zZ a x]at c;omega
def ZV(p s:List Int)(r:Int):lU (p++r::s) (p++s)<=1:=by
 rw[P_,zZ];exact Fq r s
end ZS
end
section
namespace qD
open Go.Proofs.YtjpnlfpompnpkaaGreat.ZS
def far(x y:Int):Int:=max (x-y) (y-x)
def sp1(k:Int)(n:Nat)(f:Nat->Int)(q:Int×Int):Nat->Int:=λi=>
 if 0<=q.1/\q.1<=n/\0<=q.2/\q.2<=k/\q.1-k<=i/\(i:Int)<=q.1+k then min (f i) (q.2+far i q.1)else f i
def kJ(k:Int)(n:Nat)(s:List (Int×Int)):Nat->Int:=s.foldl (sp1 k n) (λ_=>k+1)
def iZ(f:Nat->Int)(j i:Nat):Bool:=(List.range i).any λx=>decide (f x<f j)&&decide (far x j<=f j-f x)
def ly(f:Nat->Int)(m:Nat)(k:Int)(j:Nat):Bool:=decide (f j<=k)&& !iZ f j m
def upto(f:Nat->Int)(m:Nat)(k:Int)(j:Nat):List (Int×Int):=((List.range j).filter (ly f m k)).map λ(x:Nat)=>((x:Int),f x)
def mG(f:Nat->Int)(m:Nat)(k:Int):List (Int×Int):=upto f m k m
def m_(f:Nat->Int)(m:Nat)(k:Int)(j:Nat):upto f m k (j+1)=upto f m k j++(if ly f m k j=true then [((j:Int),f j)]else []):=by
 unfold upto;rw[List.range_succ,List.filter_append,gF];by_cases h:ly f m k j=true
 .simp[h]
 .simp[h]
def Td(f:Nat->Int)(m:Nat)(k:Int)(j:Nat):(upto f m k j).length<=j:=by
 unfold upto;rw[cr];have:=List.length_filter_le (ly f m k) (List.range j);simpa using this
variable{f:Nat->Int}
def Mt{g:Nat->Int}{m:Nat}(h:∀i,i<m->f i=g i)(k:Int):∀j,j<=m->upto f m k j=upto g m k j:=by
 have l:∀j,j<m->iZ f j m=iZ g j m:=by
  intro j b;unfold iZ;rw[Bool.eq_iff_iff];simp only[Fm,List.mem_range,cV,ei];constructor
  .rintro⟨x,a,c,d⟩;exact⟨x,a,by rw[<-h x a,<-h j b];exact c,by rw[<-h x a,<-h j b];exact d⟩
  .rintro⟨x,a,c,d⟩;exact⟨x,a,by rw[h x a,h j b];exact c,by rw[h x a,h j b];exact d⟩
 intro j
 induction j with
 |zero=>intro _;rfl
 |succ j n=>
  intro b;rw[m_,m_,n (by omega)];have e:ly f m k j=ly g m k j:=by unfold ly;rw[l j (by omega),h j (by omega)]
  rw[e,h j (by omega)]
def kr(f:Nat->Int)(j i:Nat):iZ f j i=true↔∃x,x<i/\f x<f j/\far x j<=f j-f x:=by
 unfold iZ;simp[Fm,List.mem_range]
def Qa{m:Nat}{k:Int}{q:Int×Int}(h:q∈mG f m k):∃j:Nat,j<m/\q=((j:Int),f j)/\f j<=k:=by
 unfold mG upto at h;obtain⟨j,b,rfl⟩:=List.mem_map.1 h;have⟨c,a⟩:=List.mem_filter.1 b;refine⟨j,List.mem_range.1 c,rfl,?_⟩;unfold ly at a;simp at a;exact a.1
def Fs{m:Nat}{k:Int}{j:Nat}(a:j<m)(h:ly f m k j=true):((j:Int),f j)∈mG f m k:=by
 unfold mG upto;exact List.mem_map.2 ⟨j,List.mem_filter.2 ⟨List.mem_range.2 a,h⟩,rfl⟩
def Te(f:Nat->Int)(m:Nat):Prop:=∀i j,i<m->j<m->f i<=f j+far i j
def OE(k:Int)(n:Nat)(i:Nat)(x:Int):∀(s:List (Int×Int)) (g:Nat->Int),x<=g i->(∀q∈s,x<=q.2+far i q.1)->x<=s.foldl (sp1 k n) g i
 | [],g,h,_=>h
 |q::s,g,h,a=>by
  refine OE k n i x s _ ?_ λr b=>a r (du _ b)
  have:=a q iK;unfold sp1;split<;>omega
def Ft(k:Int)(n:Nat)(i:Nat):∀(s:List (Int×Int)) (g:Nat->Int),s.foldl (sp1 k n) g i<=g i
 | [],g=>Int.le_refl _
 |q::s,g=>by
  have a:=Ft k n i s (sp1 k n g q);have b:sp1 k n g q i<=g i:=by unfold sp1;split<;>omega
  exact Int.le_trans a b
def wQ(k:Int)(n:Nat)(i:Nat)(q:Int×Int)(a:0<=q.1/\q.1<=n/\0<=q.2/\q.2<=k/\q.1-k<=i/\(i:Int)<=q.1+k):
 ∀(s:List (Int×Int)) (g:Nat->Int),q∈s->s.foldl (sp1 k n) g i<=q.2+far i q.1
 |r::s,g,h=>by
  obtain rfl|h:=List.mem_cons.1 h
  .have b:=Ft k n i s (sp1 k n g q)
   have c:sp1 k n g q i<=q.2+far i q.1:=by unfold sp1;rw[aI a];omega
   exact Int.le_trans b c
  .exact wQ k n i q a s _ h
def ade(f:Nat->Int)(m:Nat)(k:Int)(g:∀i,i<m->0<=f i):∀(t:Nat) (i:Nat),i<m->f i<=k->f i=t->∃j,j<m/\ly f m k j=true/\f j<=k/\f j+far i j<=f i:=by
 intro t
 induction t using Nat.strongRecOn with
 |_ t h=>
  intro i l c o;by_cases d:iZ f i m=true
  .have⟨x,e,p,q⟩:=(kr f i m).1 d
   have:=g x e;have⟨j,n,a,b,r⟩:=h (f x).toNat (by omega) x e (by omega) (by omega);refine⟨j,n,a,b,?_⟩;unfold far at*;omega
  .refine⟨i,l,?_,c,by unfold far;omega⟩
   unfold ly;simp[d,c]
def tJ(f:Nat->Int)(n:Nat)(k:Int)(b:∀i,i<n+1->0<=f i/\f i<=k+1)(g:Te f (n+1))(i:Nat)(a:i<n+1):kJ k n (mG f (n+1) k) i=f i:=by
 apply Int.le_antisymm
 .by_cases h:f i<=k
  .have⟨j,c,d,l,e⟩:=ade f (n+1) k (λi a=>(b i a).1) (f i).toNat i a h (by have:=(b i a).1;omega)
   have o:=(b j c).1;have:=wQ k n i ((j:Int),f j) (by unfold far at e;dsimp only;omega) (mG f (n+1) k) (λ_=>k+1) (Fs c d);exact Int.le_trans this e
  .have:=Ft k n i (mG f (n+1) k) (λ_=>k+1)
   have:=(b i a).2;unfold kJ;omega
 .refine OE k n i _ _ _ (b i a).2 λq m=> ?_
  obtain⟨j,c,rfl,_⟩:=Qa m;exact g i j a c
def R(a p:List Int)(k:Int)(j:Nat):Int:=min (D a p j p.length) (k+1)
def Qb(a p:List Int)(j:Nat)(b:j<a.length):D a p (j+1) p.length<=D a p j p.length+1/\D a p j p.length<=D a p (j+1) p.length+1:=by
 rw[Y9,Y9,jY (aP p.length)];have h:=ZV (a.take j) [] (a[j]);rw[List.append_nil,<-fG b]at h;have:=Tc _ _ p h;omega
def Aa(a p:List Int)(i:Nat):∀d,i+d<=a.length->D a p (i+d) p.length<=D a p i p.length+d/\D a p i p.length<=D a p (i+d) p.length+d
 |0,_=>by simp
 |d+1,h=>by
  have c:=Aa a p i d (by omega);have b:=Qb a p (i+d) (by omega);rw[Nat.add_assoc]at b;omega
def Ja(a p:List Int)(k:Int):Te (R a p k) (a.length+1):=by
 intro i j b c;unfold R far;obtain h|h:=Nat.le_total i j
 .have:=Aa a p i (j-i) (by omega)
  rw[show i+(j-i)=j by omega]at this;omega
 .have:=Aa a p j (i-j) (by omega)
  rw[show j+(i-j)=i by omega]at this;omega
def Tf(a p:List Int)(k:Int)(b:0<=k)(i:Nat)(c:i<a.length+1):0<=R a p k i/\R a p k i<=k+1:=by
 unfold R;have:=ahJ a p i p.length (by omega) (aP _);omega
def fO(a:List Int)(f:Nat->Int)(k r:Int):Nat->Int
 |0=>min (f 0+1) (k+1)
 |i+1=>min (min (min (f (i+1)+1) (fO a f k r i+1)) (if a.getD i 0=r then f i else f i+1)) (k+1)
def Th(a p:List Int)(r:Int)(i:Nat):D a (p++ [r]) i p.length=D a p i p.length:=by
 unfold D;rw[List.take_left',jY (aP p.length)];rfl
def Fu(a p:List Int)(k r:Int):∀i,i<a.length+1->fO a (R a p k) k r i=R a (p++ [r]) k i
 |0,_=>by
  unfold fO R;rw[Ta a p p.length (aP _),Ta a (p++ [r]) (p++ [r]).length (aP _)];simp only[bF,cG,dx];omega
 |i+1,h=>by
  unfold fO;rw[Fu a p k r i (by omega)];unfold R;have b:=ZU a (p++ [r]) i p.length (by omega) (by simp);have c:(p++ [r]).length=p.length+1:=by simp
  rw[c,b,Th,Th];have d:(p++ [r]).getD p.length 0=r:=by simp[aU]
  rw[d];split<;>omega
def Jb(a:List Int)(k:Int)(m:0<=k):mG (R a [] k) (a.length+1) k=[(0,0)]:=by
 have b:∀j,j<a.length+1->R a [] k j=min (j:Int) (k+1):=by
  intro j g;unfold R;rw[show([]:List Int).length=0 from rfl,WM a [] j (by omega)]
 have d:∀j,j<=a.length->upto (R a [] k) (a.length+1) k (j+1)=[(0,0)]:=by
  intro j
  induction j with
  |zero=>
   intro _;rw[m_];have c:ly (R a [] k) (a.length+1) k 0=true:=by
    unfold ly;have e:iZ (R a [] k) 0 (a.length+1)=false:=by
     rw[Bool.eq_false_iff];intro h;have⟨x,i,e,_⟩:=(kr _ _ _).1 h;rw[b x i,b 0 (by omega)]at e;omega
    rw[e,b 0 (by omega)];simp;omega
   rw[aI c,b 0 (by omega)];simp[upto];omega
  |succ j l=>
   intro g;rw[m_,l (by omega)];have c:¬ly (R a [] k) (a.length+1) k (j+1)=true:=by
    unfold ly;intro h;simp only[cV,ei,Bool.not_eq_true',Bool.eq_false_iff]at h;refine h.2 ((kr _ _ _).2 ⟨0,by omega,?_,?_⟩)
    .rw[b 0 (by omega),b (j+1) (by omega)];omega
    .have:=h.1
     rw[b (j+1) (by omega)]at this⊢;rw[b 0 (by omega)];unfold far;omega
   rw[aC c];rfl
 exact d a.length (aP _)
def S(a p:List Int)(k:Int):List (Int×Int):=mG (R a p k) (a.length+1) k
end qD
end
end Go.Proofs.YtjpnlfpompnpkaaGreat
