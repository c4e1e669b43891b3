import Derived.Outline
import Derived.StillTailTactics
import Derived.Lib.MinMax
import Derived.Deep.AppendLies
import Derived.Test.YtjpnlfpompnpkaaGreatP01
import Derived.Test.YtjpnlfpompnpkaaGreatP02
namespace Go.Proofs.YtjpnlfpompnpkaaGreat
open Go.RowKit Go.Proofs.Tryz
open Go.Value renaming int->an,slice->av,bool->aw,string->aA,tuple->aM,pointer->aL,agg->aG
open Go.IntKind renaming i64->ar
open Go.Ending renaming returned->ax
open Go.Obj renaming cells->aB
open Go renaming World->ae,Value->ah,Calls->aj
open Go.RowKit renaming Below->ai
set_option maxRecDepth 100000
set_option linter.all false
set_option maxHeartbeats 4000000
open qD
def wW(k:Int)(m:Nat)(s:List (Int×Int))(n:Nat)(h:n<s.length)(q:Int×Int)(a:s.getD n (0,0)=q):sp1 k m (kJ k m (s.take n)) q=kJ k m (s.take (n+1)):=by
 have e:s[n]=q:=by rw[<-a];simp[aU,h]
 unfold kJ;rw[fG h,List.foldl_append,e];rfl
def ou(k:Int)(m:Nat)(s:List (Int×Int))(n:Nat)(h:n<s.length)(q:Int×Int)(a:s.getD n (0,0)=q)(b:¬(0<=q.1/\q.1<=m/\0<=q.2/\q.2<=k)):kJ k m (s.take n)=kJ k m (s.take (n+1)):=by
 rw[<-wW k m s n h q a];funext i;unfold sp1;rw[aC (by omega)]
def MR{a b:ae}{c:Option Nat}(h:a.grownBy b c):a.grownBy b.drew c:=⟨h.os,h.tape,h.output,h.size,h.block⟩
def ff.lt{w:ae}{B g n:Nat}{f:Nat->Int}(h:ff w B g n f):g<w:=(World.ownsRow.lt h g rfl).2
def OZ(vq vs:ah)(q:List Int)(k:Int)(s:List (Int×Int))(w:ae)(hq:dc w .i32 vq q)(hs:iY w vs s)(lq:q.length<=100000)(P:0<=k/\k<=100000):
 aj prog 238 #[vq,(k:Int),vs] w λe w'=>e=ax (av (some ⟨w,0,none⟩) (q.length+1) (q.length+1))/\ff w' w w.heap.size (q.length+1) (kJ k q.length s)/\ai w w w':=by
 obtain⟨a1,O,rfl,m1,_⟩:=DT hq;obtain⟨a2,c2,rfl,m2,_,r2⟩:=hs;unfold maxLen at m1 m2;clear hq;obtain⟨k1,k2⟩:=P;have⟨i0,hi,E,F,G⟩:=info_parts Ox;have⟨HI,Q,T⟩:=aX hi E F;have U:i0.bytes*(q.length+1)<=281474976710656:=by rw[G];omega
 clear hi E F G;go_in;go_wp2_with (at_make;refine wpList_make_full _ rfl _ _ 43 rfl w 3 i0 (0:Int) 1 underlying43 HI.o Q.o T.o _ _ _ _ (q.length+1) rfl rfl (by omega) (by omega) U (by unfold maxLen;omega) (aP _) ?_;intro w1 h l);rw[P8]at h;have a:=P9 h;have r:=(aO _ _).grown l (aP _) (λk P=>by cases P);clear h l;go_loopw [8,18] (λ_ i wr=>∃m:Nat,m<=q.length+1/\i=an ar m/\ff wr w w.heap.size (q.length+1) (λj=>if j<m then k+1 else 0)/\ai w w wr) (λ_ i _=>q.length+1-(intOf i).toNat)
 case atStart=>exact⟨0,bz _,rfl,a.congr (λj _=>by simp),r⟩
 case round=>
  clear a r;obtain⟨m,hm,rfl,a,b⟩:=hrel;by_cases V:m<q.length+1
  .have c:=au a
   have hc:=a.cell m V;have hf:=a.frozen m;rw[aC (by omega)]at hc;have q1:(0:Int)<=(m:Int):=by omega
   have q2:(m:Int)<(q.length:Int)+1:=by omega
   clear a;go_wp2;go_roundw
   case rel=>
    refine⟨m+1,by omega,by go_num,ff.congr (c.o.store m _).1 (λj u=> ?_),b.grown (c.o.store m _).2 b.size (λj u=>by cases u;exact aP _)⟩;by_cases e:j=m
    .subst e;rw[aI rfl,aI (Nat.lt_succ_self _)]
    .rw[aC e]
     by_cases I:j<m
     .rw[aI I,aI (by omega)]
     .rw[aC I,aC (by omega)]
   case measure=>simp[intOf];omega
  .have t:ff wr w w.heap.size (q.length+1) (kJ k q.length (s.take 0)):=a.congr (λj u=>by rw[aI (by omega)];rfl)
   clear a;go_wp2;go_loopw [10,11,29] (λ_ _ i wr=>∃n:Nat,n<=s.length/\i=an ar n/\ff wr w w.heap.size (q.length+1) (kJ k q.length (s.take n))/\ai w w wr) (λ_ _ i _=>s.length-(intOf i).toNat)
   case atStart=>exact⟨0,bz _,rfl,t,b⟩
   case round=>
    clear t b;obtain⟨n,hn,rfl,a,b⟩:=hrel;by_cases d:n<s.length
    .obtain⟨b2,o2,rfl,v,A,B⟩:=r2 n d
     rw[<-b.cell (p:=⟨b2,o2+n*2,none⟩) v]at A;rw[<-b.cell (p:=⟨b2,o2+n*2+1,none⟩) v]at B;have q1:(0:Int)<=(n:Int):=by omega
     have q2:(n:Int)<(s.length:Int):=by omega
     generalize z:s.getD n (0,0)=pos at A B;obtain⟨x,y⟩:=pos;have⟨J,c⟩:=aK z a;clear z a r2;dsimp only at A B;by_cases hx0:x<0
     .have f:=au (ou k q.length s n d (x,y) J.o (by dsimp only;omega))
      go_wp2;go_roundw
      case rel=>exact⟨n+1,by omega,by go_num,ff.below (f.o▸c.o) ((aO _ _).alloc (aP _) _),b.alloc b.size _⟩
      case measure=>simp[intOf];omega
     by_cases hx1:(q.length:Int)<x
     .have f:=au (ou k q.length s n d (x,y) J.o (by dsimp only;omega))
      go_wp2;go_roundw
      case rel=>exact⟨n+1,by omega,by go_num,ff.below (f.o▸c.o) ((aO _ _).alloc (aP _) _),b.alloc b.size _⟩
      case measure=>simp[intOf];omega
     by_cases hy0:y<0
     .have f:=au (ou k q.length s n d (x,y) J.o (by dsimp only;omega))
      go_wp2;go_roundw
      case rel=>exact⟨n+1,by omega,by go_num,ff.below (f.o▸c.o) ((aO _ _).alloc (aP _) _),b.alloc b.size _⟩
      case measure=>simp[intOf];omega
     by_cases hy1:k<y
     .have f:=au (ou k q.length s n d (x,y) J.o (by dsimp only;omega))
      go_wp2;go_roundw
      case rel=>exact⟨n+1,by omega,by go_num,ff.below (f.o▸c.o) ((aO _ _).alloc (aP _) _),b.alloc b.size _⟩
      case measure=>simp[intOf];omega
     obtain⟨L,hL⟩:∃L:Nat,max (x-k) 0=L:=⟨(max (x-k) 0).toNat,by omega⟩
     obtain⟨X,hX⟩:∃X:Int,min (x+k) (q.length:Int)=X:=⟨_,rfl⟩
     have l1:(L:Int)<=X+1:=by omega
     have l2:X<=(q.length:Int):=by omega
     have l3:X<=x+k:=by omega
     have l4:x-k<=(L:Int):=by omega
     have l5:(L:Int)=x-k∨L=0:=by omega
     have⟨HX,HL,f⟩:=aX (show x+k<=X∨(q.length:Int)<=X by omega) l5 (wW k q.length s n d (x,y) J.o);have hgs:=c.o.lt;have⟨H,hH⟩:= @aD Nat wr;have K:¬H=w.heap.size:=by omega
     clear l5;have W:(wr.alloc (aB #[x,y] 390)).cell? wr.heap.size=x:=by simp
     have O:(wr.alloc (aB #[x,y] 390)).cell? ⟨wr,1,none⟩=y:=by simp
     have⟨Y,M⟩:=aK (ff.below c.o ((aO _ _).alloc (aP _) (aB #[x,y] 390))) (b.alloc b.size (aB #[x,y] 390));have N:wr.heap.size<(wr.alloc (aB #[x,y] 390)).heap.size:=by simp
     go_wp2;generalize wr.alloc (aB #[x,y] 390)=W0 at*;rw[<-hH]at*;generalize kJ k q.length (s.take n)=old at*;go_loopw [11] (λi wr=>∃m:Nat,(L:Int)<=m/\(m:Int)<=X+1/\i=an ar m/\ff wr w w.heap.size (q.length+1) (λj=>if j<m then sp1 k q.length old (x,y) j else old j)/\W0.grownBy wr (some w)) (λi _=>(X+1-intOf i).toNat)
     case atStart=>
      refine⟨L,Int.le_refl _,l1,rfl,Y.o.congr λj u=> ?_,⟨rfl,rfl,rfl,aP _,λ_ _ _=>rfl⟩⟩;by_cases e:j<L
      .rw[aI e]
       unfold sp1;have:=HL.o;dsimp only;rw[aC (by omega)]
      .rw[aC e]
     case round=>
      clear b;obtain⟨i,hi1,hi2,rfl,a,C⟩:=hrel;have cx:=(C.cell_far ⟨H,0,none⟩ N (λe=>K (Option.some.inj e))).trans W;have cy:=(C.cell_far ⟨H,1,none⟩ N (λe=>K (Option.some.inj e))).trans O;by_cases hlt3:(i:Int)<=X
      .have ci:=a.cell i (by omega)
       have fi:=a.frozen i;rw[aC (by omega)]at ci;have⟨g,HG⟩:=aK a C;have q3:(0:Int)<=(i:Int):=by omega
       have q4:(i:Int)<(q.length:Int)+1:=by omega
       generalize ho:old i=oi at ci;have HO:=au ho;clear a C ho W O;go_wp2
       go_still_tail 20,(by kernel_rfl)
       go_wp2;go_roundw
       case rel=>
        refine⟨i+1,by omega,by omega,by go_num,ff.congr (ff.below (g.o.store i _).1 (below_drewN (aO _ _) 1)) (λj u=> ?_),MR (I8 HG.o (g.o.store i _).2)⟩;by_cases e:j=i
        .subst e
         rw[aI rfl,aI (Nat.lt_succ_self _)];unfold sp1;dsimp only;rw[aI (by omega),HO.o];unfold far;omega
        .rw[aC e]
         by_cases I:j<i
         .rw[aI I,aI (by omega)]
         .rw[aC I,aC (by omega)]
       case measure=>simp[intOf];omega
      .have g:=au (ff.congr (f':=sp1 k q.length old (x,y)) a (λj u=>by
        by_cases e:j<i
        .rw[aI e]
        .rw[aC e]
         unfold sp1;have:=HX.o;dsimp only;rw[aC (by omega)]))
       have Z:=au (M.o.grown C M.o.size (λj u=>by cases u;exact aP _));clear a C W O;go_wp2;go_roundw
       case rel=>exact⟨n+1,by omega,by go_num,f.o▸g.o,Z.o⟩
       case measure=>simp[intOf];omega
    .obtain rfl:n=s.length:=by omega
     rw[jY (aP _)]at a;go_wp2;go_ret;exact⟨rfl,a,b⟩
def Au(w:ae)(v:ah)(m:Nat)(f:Nat->Int):Prop:=
 ∃g c,v=av (some ⟨g,0,none⟩) m c/\m<=c/\m<=maxLen/\g<w.heap.size/\∀i,i<m->w.cell? ⟨g,i,none⟩=(f i:Int)
def ff.at{w:ae}{B g n:Nat}{f:Nat->Int}(h:ff w B g n f)(a:n<=maxLen):Au w (av (some ⟨g,0,none⟩) n n) n f:=
 ⟨g,n,rfl,aP _,a,h.lt,λi b=>h.cell i b⟩
def Au.below{w w':ae}{v:ah}{m:Nat}{f:Nat->Int}(h:Au w v m f)(a:ai w w w'):Au w' v m f:=by
 obtain⟨g,c,d,e,j,b,k⟩:=h;exact⟨g,c,d,e,j,bP b a.size,λi l=>(a.cell (p:=⟨g,i,none⟩) b).trans (k i l)⟩
def Jz(f:Nat->Int)(j i:Nat):iZ f j (i+1)=(iZ f j i||(decide (f i<f j)&&decide (far i j<=f j-f i))):=by
 unfold iZ;rw[List.range_succ,List.any_append];simp
def Qu(f:Nat->Int)(k:Int)(m j a:Nat)(b:∀i,i<m->0<=f i)(c:j<m)(g:f j<=k)(d:(a:Int)=j-k∨a=0):iZ f j a=false:=by
 rw[Bool.eq_false_iff];intro h;have⟨x,l,n,e⟩:=(kr _ _ _).1 h;have:a<=m:=by have:=b j c;omega
 have:=b x (by omega);unfold far at e;omega
def Qv(f:Nat->Int)(k:Int)(m j a:Nat)(e:∀i,i<m->0<=f i)(g:f j<=k)(h:a<=m)(l:(j:Int)+k<a∨a=m):iZ f j m=iZ f j a:=by
 rw[Bool.eq_iff_iff,kr,kr];constructor
 .rintro⟨x,d,c,b⟩
  refine⟨x,?_,c,b⟩;have:=e x d;unfold far at b;omega
 .rintro⟨x,d,c,b⟩
  exact⟨x,by omega,c,b⟩
def Qw(w:ae)(cs:List ah)(t:TypeId):∀j x,cs[j]? =some x->(w.alloc (aB cs.toArray t)).cell? ((⟨w,0,none⟩:Addr).add j)=some x:=by
 intro j x a;rw[show(⟨w,0,none⟩:Addr).add j=⟨w,j,none⟩by cases j<;>simp[Addr.add]];simp[World.cell?_alloc_new,a]
def aag(vr:ah)(m:Nat)(f:Nat->Int)(k:Int)(w:ae)(hr:Au w vr m f)(hm:m<=100001)(hk:0<=k/\k<=100000)(Y:∀i,i<m->0<=f i/\f i<=1000000):
 aj prog 239 #[vr,(k:Int)] w λe w'=>∃v,e=ax v/\w'.ownsRow w 390 2 v (mG f m k).length (eQ (mG f m k))/\ai w w w':=by
 obtain⟨g,c,rfl,hc1,Z,hg,q⟩:=hr;obtain⟨k1,k2⟩:=hk;have⟨i0,hi,K,M,N⟩:=info_parts WH;have⟨HI,HZ0,HZ1,HZ2,HF,O⟩:=eC hi K M N Y (λi (h:i<m)=>(Y i h).1);have HC:=au q;unfold maxLen at Z;clear hi K M N Y q;go_in;go_wp2;go_loopw [5,6,7,8,9,12] (λv _ _ _ _ i wr=>∃j:Nat,j<=m/\i=an ar j/\wr.ownsRow w 390 2 v (upto f m k j).length (eQ (upto f m k j))/\ai w w wr) (λ_ _ _ _ _ i _=>m-(intOf i).toNat)
 case atStart=>exact⟨0,bz _,rfl,World.ownsRow_nil _ _ _ _,aO _ _⟩
 case round=>
  obtain⟨j,hj,rfl,r,a⟩:=hrel;by_cases E:j<m
  .have hcj:=(a.cell (p:=⟨g,j,none⟩) hg).trans (HC.o j E)
   have bj:=HF.o j E;have⟨H,W⟩:=aK (m_ f m k j) r;generalize P:f j=F at hcj bj;have d:=au P;have q1:(0:Int)<=(j:Int):=by omega
   have q2:(j:Int)<(m:Int):=by omega
   clear P r;by_cases hFk:k<F
   .have s:upto f m k (j+1)=upto f m k j:=by
     rw[H.o,aC]
     .simp
     .unfold ly;rw[d.o];simp;omega
    have Q:=au s;clear s;go_wp2;go_roundw
    case rel=>exact⟨j+1,by omega,by go_num,Q.o▸W.o,a⟩
    case measure=>simp[intOf];omega
   .obtain⟨L,hL⟩:∃L:Nat,max ((j:Int)-k) 0=L:=⟨(max ((j:Int)-k) 0).toNat,by omega⟩
    obtain⟨X,hX⟩:∃X:Int,min ((j:Int)+k) ((m:Int)-1)=X:=⟨_,rfl⟩
    have l1:(L:Int)<=X+1:=by omega
    have l2:X<(m:Int):=by omega
    have⟨HLO,HXX⟩:=aK (Qu f k m j L O.o E (by rw[d.o];omega) (by omega)) (show X=(j:Int)+k∨X=(m:Int)-1 by omega);go_wp2
    go_loop [8,9] (λb i=>∃n:Nat,(L:Int)<=n/\(n:Int)<=X+1/\i=an ar n/\b=aw (iZ f j n)) (λ_ i=>(X+1-intOf i).toNat)
    case atStart=>exact⟨L,Int.le_refl _,l1,rfl,by rw[HLO.o]⟩
    case round=>
     obtain⟨n,hn1,hn2,rfl,rfl⟩:=hrel;by_cases hlt2:(n:Int)<=X
     .have hcn:=(a.cell (p:=⟨g,n,none⟩) hg).trans (HC.o n (by omega))
      have bn:=HF.o n (by omega);have x:=au (Jz f j n);generalize T:f n=G at hcn bn;have y:=au T;have q3:(0:Int)<=(n:Int):=by omega
      have q4:(n:Int)<(m:Int):=by omega
      generalize U:iZ f j n=B;have z:=au U;clear T U;by_cases C:B=true
      .subst C
       go_wp2
       go_round
       case rel=>exact⟨n+1,by omega,by omega,by go_num,by rw[x.o,z.o,y.o,d.o];simp⟩
       case measure=>simp[intOf];omega
      .obtain rfl:B=false:=by simpa using C
       by_cases l:G<F
       .by_cases Xf:max ((n:Int)-j) ((j:Int)-n)<=F-G
        .have V:decide (G<F)=true:=by simpa using l
         go_wp2
         go_round
         case rel=>exact⟨n+1,by omega,by omega,by go_num,by rw[x.o,z.o,y.o,d.o];(simp[l];unfold far;omega)⟩
         case measure=>simp[intOf];omega
        .have V:decide (G<F)=true:=by simpa using l
         go_wp2
         go_round
         case rel=>exact⟨n+1,by omega,by omega,by go_num,by rw[x.o,z.o,y.o,d.o];(simp[l];unfold far;omega)⟩
         case measure=>simp[intOf];omega
       .have V:decide (G<F)=false:=by simpa using l
        go_wp2
        go_round
        case rel=>exact⟨n+1,by omega,by omega,by go_num,by rw[x.o,z.o,y.o,d.o];simp[l]⟩
        case measure=>simp[intOf];omega
     .have A:=Qv f k m j n O.o (by rw[d.o];omega) (by omega) (by have:=HXX.o;omega)
      by_cases C:iZ f j n=true
      .have s:upto f m k (j+1)=upto f m k j:=by
        rw[H.o,aC]
        .simp
        .unfold ly;rw[A,C];simp
       have Q:=au s;rw[C];clear s C A;go_wp2;go_roundw
       case rel=>exact⟨j+1,by omega,by go_num,Q.o▸W.o,a⟩
       case measure=>simp[intOf];omega
      .obtain I:iZ f j n=false:=by simpa using C
       have s:upto f m k (j+1)=upto f m k j++ [((j:Int),F)]:=by
        rw[H.o,aI,d.o];unfold ly;rw[A,I,d.o];simp;omega
       have Q:=au s;have hul:=Td f m k j;rw[I];clear s C I A;go_wp2_with (at_builtin;refine wpList_append_own _ rfl (.tmp 62) (.tmp 66) 381 rfl w 390 i0 (aG #[an ar 0,an ar 0]) 2 16 underlying381 HI.o HZ0.o HZ1.o HZ2.o rfl (by decide) _ _ _ rfl (W.o.alloc _) ⟨_,0,none⟩ 1 1 [an ar (j:Int),an ar F] rfl rfl (Qw _ _ _) (by intro u s;simp at s;rcases s with rfl|rfl<;>rfl) (by unfold maxLen;omega) (by omega) (by have:=a.size;simp;omega) ?_;intro v1 w2 J t _);have hb3:=(a.alloc a.size _).grown t (by have:=a.size;simp;omega) (λj hj=>(W.o.lt j hj).1);clear t;go_wp2;go_roundw
       case rel=>
        refine⟨j+1,by omega,by go_num,?_,hb3⟩;rw[Q.o,CB];simpa using J
       case measure=>simp[intOf];omega
  .obtain rfl:j=m:=by omega
   go_wp2;go_ret;exact⟨_,rfl,r,a⟩
@[go_sem high] def adJ {P:Program} (w:ae) (b:Array TypeId) (t:TypeId) (a c d f:IntKind) (x y z u:Int):
 (Builtin.min_ b t #[.int a x,.int c y,.int d z,.int f u]).run P w=.ok (.int a (min (min (min x y) z) u)) w:=by
 have e:∀x y:Int,(if y<x then y else x)=min x y:=by intro x y;rw[Int.min_def];split<;>split<;>omega
 simp[Builtin.min_,Builtin.min2,e]
def adK(k:Int)(w:ae):aj prog 237 #[(k:Int)] w λe w'=>e=ax (aw (decide (0<=k)&&decide (k<=4)))/\w=w':=by
 by_cases h:0<=k
 .go_in
  go_wp2;go_ret;exact⟨cA (by simp[h]),rfl⟩
 .go_in
  go_wp2;go_ret;exact⟨cA (by simp;omega),rfl⟩
def FL{k:Int}(h:0<=k/\k<=4)(w:ae):aj prog 237 #[k] w λe w'=>e=ax (aw true)/\w=w':=by
 have:=adK k w
 rwa [show(decide (0<=k)&&decide (k<=4))=true by simp;omega]at this
def Av(w:ae)(B:Nat)(v:ah)(ps:List (Int×Int)):Prop:=w.ownsRow B 390 2 v ps.length (eQ ps)
def Av.reads{w:ae}{B:Nat}{v:ah}{a:List (Int×Int)}(h:Av w B v a):iY w v a:=I9 h
def Av.below{w w':ae}{B:Nat}{v:ah}{a:List (Int×Int)}(h:Av w B v a)(b:ai w w w'):Av w' B v a:=oB h b
def aah(b:ah)(q:List Int)(k:Int)(w:ae)(h:0<=k/\k<=4):
 aj prog 233 #[b,(k:Int)] w λe w'=>∃v,e=ax v/\Av w' w v (S q [] k)/\ai w w w':=by
 have a:=Jb q k h.1;have c:=au (show S q [] k=[(0,0)]from a);clear a;go_in;go_wp2_with (go_at_call 237;refine aH (FL h _) ?_);go_ret;refine⟨_,rfl,?_,(aO _ _).alloc (aP _) _⟩;rw[c.o];exact World.ownsRow_lit (base:=w.heap.size) (size:=2) (e:=390) w #[an ar 0,an ar 0] 1 (aP _) (by decide) rfl
def aai(q p:List Int)(k r:Int):mG (fO q (R q p k) k r) (q.length+1) k=S q (p++ [r]) k:=
 Mt (λi a=>Fu q p k r i a) k (q.length+1) (aP _)
def adL(W X:ah)(q p:List Int)(k r:Int)(w:ae)(hq:dc w .i32 W q)(hs:iY w X (S q p k))(lq:q.length<=100000)(hk:0<=k/\k<=4):
 aj prog 235 #[W,k,X,.int .i32 r] w λe w'=>∃v,e=ax v/\Av w' w v (S q (p++ [r]) k)/\ai w w w':=by
 have F:=OZ W X q k (S q p k) w hq hs lq (by omega);obtain⟨a1,c1,rfl,m1,_,r1⟩:=hq;unfold maxLen at m1;have nC:=λw=>FL hk w
 obtain⟨V,k2⟩:=hk;have⟨Y,Z⟩:=aK (λi l=>Tf q p k V i l) (λi l=>tJ (R q p k) q.length k (λi l=>Tf q p k V i l) (Ja q p k) i l);clear hs;go_in;go_wp2_with (go_at_call 237;refine aH (nC _) ?_);refine F.mono ?_;rintro e E ⟨rfl,m,y⟩;have s:=m.congr (λj t=>Z.o j t);have G:=ZO w (q.length+1) ((List.range (q.length+1)).map (R q p k)) E (by simp) s.reads (by omega);have A:=au s;clear F nC s m;go_wp2_with fail
 refine G.mono ?_;rintro e w2 ⟨v,rfl,b,z⟩;rw[show((List.range (q.length+1)).map (R q p k)).length=q.length+1 by simp]at b;obtain⟨g,c,rfl,hc1,hc2,a⟩:=WI b (by omega);have B:=a.base;have C:=au (λ(wr:ae) (hb:ai E E wr) (i:Nat) (l:i<q.length+1)=>(hb.cell (p:=⟨w,i,none⟩) A.o.lt).trans (A.o.cell i l));have x0:=C.o w2 z 0 (by omega);have b0:=Y.o 0 (by omega);have n0:=a.cell 0 (by omega);have f0:=a.frozen 0;have H:=au a;unfold maxLen at hc2;generalize I:R q p k 0=e0 at x0 b0 n0;have HR0:=au I;clear G b a I;have HN0:=au (show fO q (R q p k) k r 0=min (e0+1) (k+1)by unfold fO;rw[HR0.o]);go_wp2;go_loopw [11,12,13,34] (λ_ _ _ i wr=>∃n:Nat,n<=q.length/\i=an ar n/\lZ wr E g (q.length+1) c (λj=>if j<=n then fO q (R q p k) k r j else R q p k j)/\ai E E wr) (λ_ _ _ i _=>q.length-(intOf i).toNat)
 case atStart=>
  refine⟨0,bz _,rfl,(H.o.store 0 _).1.congr λj t=> ?_,z.grown (H.o.store 0 _).2 z.size (λj t=>by cases t;exact B)⟩;by_cases e:j=0
  .subst e;rw[aI rfl,aI (aP _),HN0.o];omega
  .rw[aC e,aC (by omega)]
 case round=>
  clear x0 n0 f0 z;obtain⟨n,hn,rfl,a,d⟩:=hrel;by_cases hlt:n<q.length
  .obtain⟨b1,o1,rfl,J,K⟩:=r1 n hlt
   rw[<-(y.trans (d.mono y.size)).cell (p:=⟨b1,o1+n,none⟩) J]at K;have xa:=C.o _ d n (by omega);have xb:=C.o _ d (n+1) (by omega);have ba:=Y.o n (by omega);have bb:=Y.o (n+1) (by omega);have ya:=a.cell n (by omega);rw[aI (aP _)]at ya;have yb:=a.cell (n+1) (by omega);rw[aC (by omega)]at yb;have fb:=a.frozen (n+1);have bn:0<=fO q (R q p k) k r n/\fO q (R q p k) k r n<=k+1:=by rw[Fu q p k r n (by omega)];exact Tf q (p++ [r]) k V n (by omega)
   have L:fO q (R q p k) k r (n+1)=min (min (min (R q p k (n+1)+1) (fO q (R q p k) k r n+1)) (if q.getD n 0=r then R q p k n else R q p k n+1)) (k+1):=rfl;have⟨M,f⟩:=aK L a;generalize N:R q p k n=ra at xa ba;generalize O:R q p k (n+1)=rb at xb bb yb;generalize P:fO q (R q p k) k r n=na at ya bn;generalize Q:q.getD n 0=x at K;have⟨H1,H2,H3,H4⟩:=c_ N O P Q;have q1:(0:Int)<=(n:Int):=by omega
   have q2:(n:Int)<(q.length:Int):=by omega
   have q3:(n:Int)+1<(q.length:Int)+1:=by omega
   have q4:(n:Int)<(q.length:Int)+1:=by omega
   clear a L N O P Q r1;by_cases h:x=r
   .have hxb:(x !=r)=false:=by simp[h]
    have HX:=au h;clear h;go_wp2;have s1:=IntWalk.i64_in ((n:Int)+1) (by omega);have s2:=IntWalk.i64_in (k+1) (by omega);have s3:=IntWalk.i64_in (rb+1) (by omega);have s4:=IntWalk.i64_in (na+1) (by omega);have s5:(0:Int)<=(n:Int)+1:=by omega
    have s6:((n:Int)+1).toNat=n+1:=by omega
    go_still_tail 19,(by kernel_rfl)
    clear s1 s2 s3 s4 s6;go_wp2;go_roundw
    case rel=>
     refine⟨n+1,by omega,by go_num,lZ.congr (lZ.below (f.o.store (n+1) _).1 (below_drewN (aO _ _) 1)) (λj t=> ?_),below_drewN (d.grown (f.o.store (n+1) _).2 d.size (λj t=>by cases t;exact B)) 1⟩;by_cases e:j=n+1
     .subst e
      rw[aI rfl,aI (aP _),M.o,H1.o,H2.o,H3.o,H4.o];have:=HX.o;rw[aI this];omega
     .rw[aC e]
      by_cases T:j<=n
      .rw[aI T,aI (by omega)]
      .rw[aC T,aC (by omega)]
    case measure=>simp[intOf];omega
   .have hxb:(x !=r)=true:=by simp[h]
    have HX:=au h;clear h;go_wp2;have s1:=IntWalk.i64_in ((n:Int)+1) (by omega);have s2:=IntWalk.i64_in (k+1) (by omega);have s3:=IntWalk.i64_in (rb+1) (by omega);have s4:=IntWalk.i64_in (na+1) (by omega);have s5:(0:Int)<=(n:Int)+1:=by omega
    have s6:((n:Int)+1).toNat=n+1:=by omega
    go_still_tail 19,(by kernel_rfl)
    clear s1 s2 s3 s4 s6;go_wp2;go_roundw
    case rel=>
     refine⟨n+1,by omega,by go_num,lZ.congr (lZ.below (f.o.store (n+1) _).1 (below_drewN (aO _ _) 1)) (λj t=> ?_),below_drewN (d.grown (f.o.store (n+1) _).2 d.size (λj t=>by cases t;exact B)) 1⟩;by_cases e:j=n+1
     .subst e
      rw[aI rfl,aI (aP _),M.o,H1.o,H2.o,H3.o,H4.o];have:=HX.o;rw[aC this];omega
     .rw[aC e]
      by_cases T:j<=n
      .rw[aI T,aI (by omega)]
      .rw[aC T,aC (by omega)]
    case measure=>simp[intOf];omega
  .obtain rfl:n=q.length:=by omega
   have u:=a.congr (f':=fO q (R q p k) k r) (λj t=>by rw[aI (by omega)]);have U:=aag (av (some ⟨g,0,none⟩) (q.length+1) c) (q.length+1) (fO q (R q p k) k r) k wr ⟨g,c,rfl,hc1,by unfold maxLen;omega,u.lt,λi l=>u.cell i l⟩ (by omega) (by omega) (λi l=>by rw[Fu q p k r i l];have:=Tf q (p++ [r]) k V i l;omega);rw[aai]at U;have HW:=au (y.trans (d.mono y.size));clear a u;go_wp2_with fail
   refine U.mono ?_;rintro e w3 ⟨v,rfl,b,hb3⟩;go_wp2;go_ret;exact⟨v,rfl,tH b HW.o.size,HW.o.trans (hb3.mono HW.o.size)⟩
open ZS
def MS(d k z:Int)(q:Bool):Prop:=if d<=k then z=d/\q=true else z=0/\q=false
def TP{d k:Int}(h:d<=k):MS d k d true:=by unfold MS;rw[aI h];exact⟨rfl,rfl⟩
def Xg{d k:Int}(h:¬d<=k):MS d k 0 false:=by unfold MS;rw[aC h];exact⟨rfl,rfl⟩
def TQ(d k:Int):∃z q,MS d k z q/\(q=true->z=d/\d<=k)/\(q=false->z=0/\k<d):=by
 by_cases h:d<=k
 .exact⟨d,true,TP h,λ_=>⟨rfl,h⟩,λh=>by cases h⟩
 .exact⟨0,false,Xg h,λh=>(by cases h),λ_=>⟨rfl,by omega⟩⟩
def adM(m n:ah)(q p:List Int)(k:Int)(w:ae)(r:dc w .i32 m q)(u:iY w n (S q p k))(y:q.length<=100000)(v:0<=k/\k<=4)(z:Int)(o:Bool)(b:MS (lU q p) k z o):
 aj prog 234 #[m,(k:Int),n] w λe w'=>e=ax (aM #[(z:Int),aw o])/\ai w w w':=by
 have g:=OZ m n q k (S q p k) w r u y (by omega);obtain⟨F,G,rfl,A,_⟩:=DT r;unfold maxLen at A;have nC:=λw=>FL v w
 obtain⟨B,H⟩:=v;have⟨s,C⟩:=aK (λi t=>tJ (R q p k) q.length k (λi t=>Tf q p k B i t) (Ja q p k) i t) b;clear u b r;go_in;go_wp2_with (go_at_call 237;refine aH (nC _) ?_);refine g.mono ?_;rintro e I ⟨rfl,a,h⟩;have c:=a.congr (λj E=>s.o j E);have l:=c.cell q.length (by omega);have x:R q p k q.length=min (lU q p:Int) (k+1):=by unfold R;rw[WN]
 rw[x]at l;have J:(0:Int)<=(q.length:Int):=by omega
 have K:(q.length:Int)<(q.length:Int)+1:=by omega
 clear g nC c a x;have b:=C.o;unfold MS at b;generalize(lU q p:Int)=d at b l;by_cases f:d<=k
 .rw[aI f]at b
  obtain⟨rfl,rfl⟩:=b;rw[show min z (k+1)=z by omega]at l;go_wp2;go_ret2;exact⟨rfl,h⟩
 .rw[aC f]at b
  obtain⟨rfl,rfl⟩:=b;rw[show min d (k+1)=k+1 by omega]at l;clear f;go_wp2;go_ret2;exact⟨rfl,h⟩
def JA(s:List (Int×Int)):Bool:=decide (s.length=0)
def TR{s:List (Int×Int)}(h:¬s.length=0):JA s=false:=by unfold JA;exact decide_eq_false h
def adN(b:ah)(s:List (Int×Int))(w:ae)(d:iY w b s):
 aj prog 236 #[b] w λe w'=>e=ax (aw (JA s))/\w=w':=by
 obtain⟨a,c,rfl,f,_⟩:=Mr d;unfold maxLen at f;clear d;go_in;go_wp2;go_ret;refine⟨cA ?_,rfl⟩;unfold JA;rw[Bool.eq_iff_iff];simp
end Go.Proofs.YtjpnlfpompnpkaaGreat
