import Derived.Shelf.Strings.OnBuilder
import Derived.Shelf.Strings.Prefix
import Derived.Laws.CopyOwn
import Derived.Test.YtjpnlfpompnpkaaGreatP04
import Derived.Test.YtjpnlfpompnpkaaGreatP05
import Derived.Test.YtjpnlfpompnpkaaGreatP06
namespace Go.Proofs.YtjpnlfpompnpkaaGreat
open Go.RowKit Go.Proofs.Tryz
open Go.Value renaming int->an,slice->av,bool->aw,string->aA,tuple->aM,pointer->aL,agg->aG
open Go.IntKind renaming i64->ar
open Go.Ending renaming returned->ax
open Go.Obj renaming cells->aB
open Go renaming World->ae,Value->ah,Calls->aj,Ending->ak
open Go.RowKit renaming Below->ai
set_option maxRecDepth 100000
set_option linter.all false
set_option maxHeartbeats 2000000
open Go.ChangeMaps
def Xh:(prog.info? 317).map (λi=>(i.zero,i.size,i.bytes))=some (some (aG #[an ar 0,an ar 0]),2,16):=by kernel_rfl
def adO(v:ah)(w:ae):(Instr.typeAssert (.iface 317 v) 20 317 true).run prog w=.ok (aM #[v,aw true]) w:=by kernel_rfl
def TS{w:ae}{p:Nat}{f:Int}{g:Option Nat}{v:ah}{l:List iG}(h:i_ w p f g v l)(hn:l.length<1000)(x:iG):
 aj prog 278 #[aL (some ⟨p,1,none⟩),.iface 317 (aG #[an ar x.1,an ar x.2])] w λe w'=>e=ax (aM #[])/\((∃g' v',i_ w' p f g' v' (l++ [x])/\(g'=g∨∃b,g'=some b/\w.heap.size<=b))/\aQ (p::g.toList) w w'):=by
 obtain⟨a,U,rfl,O,V⟩:=h.s.len;unfold maxLen at V;obtain⟨B,C⟩:=x;simp only;have⟨u,M⟩:=aD (w.alloc (aB #[B,C] 317 (0,0)));have⟨P,J,W⟩:=dt M;have r:=h.bH (J.drew);have⟨v',t,g',A,j,k,E⟩:=r.s.push 147 underlying147 Xh rfl (by decide) [an ar B,an ar C] rfl (by simp[Value.oneCell']) (by omega) (by decide);obtain⟨F,G,rfl,_⟩:=j.len;have⟨_,c1,hp,Q⟩:=(h.bH J).cell;have f1:=Q 1;have X:=az h.c;have N:=h.d;have z:=k.at r.c (by simpa using N);have H:∀y,g'=some y->y≠p:=by
  rintro y I rfl;obtain e|⟨b,e,K⟩:=E
  .exact N (by rw[<-e,I];simp)
  .rw[I]at e;injection e with e
   have:=az r.c;omega
 have m:aQ [p] t (t.setCell ⟨p,1,none⟩ (av F (l.length+1) G)):=(aQ.refl _ _).setCell _ (by simp) _;have n:i_ (t.setCell ⟨p,1,none⟩ (av F (l.length+1) G)) p f g' (av F (l.length+1) G) (l++ [(B,C)])/\aQ (p::g.toList) w (t.setCell ⟨p,1,none⟩ (av F (l.length+1) G)):=by
  refine⟨⟨?_,?_,?_,by simp;omega⟩,((J.drew.mono (by simp)).trans (k.mono λy I=>du _ I)).trans (m.mono (by simp))⟩
  .simpa using aE (i:=1) z (av F (l.length+1) G)
  .have e:lK l++ [an ar B,an ar C]=lK (l++ [(B,C)]):=by simp[lK]
   rw[<-e,bF];exact j.bH m (λy I e=>by
    simp only[cm]at e;exact H y I e)
  .intro e
   rw[eZ]at e;exact H p e rfl
 have⟨Y,L⟩:=aK (show(∃g' v',i_ (t.setCell ⟨p,1,none⟩ (av F (l.length+1) G)) p f g' v' (l++ [(B,C)])/\(g'=g∨∃b,g'=some b/\w.heap.size<=b))/\aQ (p::g.toList) w (t.setCell ⟨p,1,none⟩ (av F (l.length+1) G))from⟨⟨g',_,n.1,E.imp id λ⟨b,e,K⟩=>⟨b,e,bD J.drew.size K⟩⟩,n.2⟩) A;have⟨d0,d1⟩:=dk P;have T:=(show∃q,t.cell? ⟨p,1,none⟩=some q from⟨_,by simp[World.cell?,z];rfl⟩);have ft:=bB z 1;obtain⟨qv,T⟩:=T;have Z:=au M;have ta:=λw=>adO (aG #[B,C]) w
 clear h r A j k E Q z H m n J P N M;go_in;go_upto_region 2 with fail
 rw[<-Z.o];go_region_law (first
  |(refine kM (by rfl) (.tmp 15) (.tmp 17) 147 (by rfl) _ _ _ t (by rfl) (by rfl) (L.o _) ?_)
  |fail)
 all_goals
  go_wp2_with fail
  go_end0
  exact⟨rfl,Y.o⟩
def mf(w:ae)(p:Nat)(most:Int)(g:Option Nat)(L:List iG)(w':ae):Prop:=
 (∃g' v' l',l'.Perm L/\i_ w' p most g' v' l'/\(g'=g∨∃b,g'=some b/\w.heap.size<=b))/\aQ (p::g.toList) w w'
variable{w:ae}{p:Nat}{g:Option Nat}
def mf.step{w1 w':ae}{c:Int}{i:Option Nat}{L:List iG}(m:i=g∨∃b,i=some b/\w.heap.size<=b)(d:aQ (p::g.toList) w w1)(h:mf w1 p c i L w'):mf w p c g L w':=by
 obtain⟨⟨r,s,t,u,v,j⟩,a⟩:=h;refine⟨⟨r,s,t,u,v,?_⟩,?_⟩
 .obtain e|⟨b,e,n⟩:=j
  .rw[e];exact m
  .exact .inr ⟨b,e,bD d.size n⟩
 .obtain e|⟨b,e,n⟩:=m
  .rw[e]at a;exact d.trans a
  .refine⟨a.os.trans d.os,a.tape.trans d.tape,a.output.trans d.output,bD d.size a.size,λk o q=> ?_⟩
   rw[a.block k (bP o d.size) (λf=> ?_),d.block k o q];obtain f|f:=List.mem_cons.1 f
   .exact q (by rw[f];simp)
   .rw[e]at f
    simp only[Option.toList_some,cm]at f;omega
variable{l:List iG}
def Qx{b:Int}{v:ah}(h:i_ w p b g v l)(E:l.length<1000)(d f:Int):
 aj prog 271 #[.iface 296 (aL (some ⟨p,1,none⟩)),.iface 317 (aG #[d,f])] w λe w'=>e=ax (aM #[])/\mf w p b g (l++ [(d,f)]) w':=by
 have F:=au (TS h E (d,f));have M:=WW;have N:=MH;clear h;go_in;go_wp2_with fail
 refine aN F.o ?_;rintro y ⟨⟨t,O,i,u⟩,x⟩;have⟨_,A,P,_⟩:=i.cell;obtain⟨a,n,rfl,j,B⟩:=i.s.len;have c:(l++ [(d,f)]).length=l.length+1:=by simp
 rw[c]at A j B i;unfold maxLen at B;have⟨G,r,H,I⟩:=c_ (upC i l.length (by simp)) (FA a (l.length+1) n y) u x;clear i u x c;go_wp2_with fail
 refine aH r.o ?_;go_wp2_with fail
 refine aN G.o ?_;rintro z ⟨⟨J,k,_,C⟩,m⟩;have K:=au (mf.step H.o I.o (⟨⟨t,_,J,k,C,.inl rfl⟩,m.mono (λq L=>du _ L)⟩:mf y p b t (l++ [(d,f)]) z));clear k C m A;go_wp2
 go_end0
 exact⟨rfl,K.o⟩
def TT{c:Int}{v:ah}(h:i_ w p c g v l)(i:Nat)(B:i<l.length):
 aj prog 270 #[.iface 296 (aL (some ⟨p,1,none⟩)),(i:Int)] w λe w'=>e=ax (aM #[])/\mf w p c g l w':=by
 have F:=au (Zc h i l.length B (aP _));have⟨_,G,N,_⟩:=h.cell;obtain⟨a,k,rfl,C,H⟩:=h.s.len;unfold maxLen at H;have n:=au (FA a l.length k w);have O:=MH;clear h;go_in;go_wp2_with fail
 refine aH n.o ?_;go_wp2_with fail
 refine F.m ?_;rintro e y ⟨b,rfl,⟨I,d,_,r⟩,t⟩;have⟨J,u,x,K⟩:=c_ (upC r i (by rw[d.length_eq];exact B)) (⟨⟨g,_,I,d,r,.inl rfl⟩,t.mono (λq A=>du _ A)⟩:mf w p c g l y) d t;clear r t d G;cases b
 .go_wp2_with fail
  refine aN J.o ?_;rintro z ⟨⟨L,f,_,E⟩,j⟩;have M:=au (⟨⟨g,_,L,f.trans x.o,E,.inl rfl⟩,(K.o.trans j).mono (λq A=>du _ A)⟩:mf w p c g l z);clear f E j;go_wp2
  go_end0
  exact⟨rfl,M.o⟩
 .go_wp2
  go_end0
  exact⟨rfl,u.o⟩
def Aw{n:Nat}{x:iG}(a:l.length=n+1)(h:l.getD n ()=x):l.Perm (x::l.take n):=by
 have e:l.take n++ [x]=l:=by
  rw[<-h];have:=mE n l;rw[List.drop_eq_getElem_cons (by omega),List.drop_eq_nil_of_le (by omega)]at this;simpa[aU,show n<l.length by omega]using this
 have p:=List.perm_append_singleton x (l.take n);rw[e]at p;exact p
def MT(l:List iG)(i j:Nat)(a:j<l.length):(iR l i j).getD j ()=l.getD i ():=by
 simp[iR,aU,a]
def MV{w1 w':ae}{a:Int}{b L:List iG}{n:Nat}{x:iG}(c:b.length=n+1)(e:b.getD n ()=x)(f:b.Perm (x::L))(h:(∃v',i_ w' p a g v' (b.take (b.length-1)))/\aQ [p] w1 w'):mf w1 p a g L w':=by
 obtain⟨⟨v',d⟩,i⟩:=h;rw[c,Nat.add_sub_cancel]at d;refine⟨⟨g,v',_,?_,d,.inl rfl⟩,i.mono (by simp)⟩;exact((Aw c e).symm.trans f).cons_inv
def JB{u:Int}{v:ah}(h:i_ w p u g v l)(i:Nat)(hi:i<l.length)(L:List iG)(hL:l.Perm (l.getD i ()::L)):
 aj prog 153 #[.iface 296 (aL (some ⟨p,1,none⟩)),(i:Int)] w λe w'=>(∃v,e=ax v)/\mf w p u g L w':=by
 obtain⟨n,H⟩:∃n,l.length=n+1:=⟨l.length-1,by omega⟩
 have⟨_,c1,hp,_⟩:=h.cell;obtain⟨a,I,rfl,J,hm⟩:=h.s.len;have A:=h.n;unfold maxLen at hm;have k:=FA a l.length I w;rw[H]at c1 J hm A k;have K:=au (show aj prog 273 #[av a (n+1) I] w λe w'=>e=ax ((n:Int)+1:Int)/\w=w' from k);have mL:=MH;have mS:=Fz;have mP:=Z6;have⟨M,N⟩:=aK H hL;by_cases hin:i=n
 .subst hin
  have hb:((i:Int) !=(i:Int))=false:=by simp
  have c:=au (FB h (by omega));clear h k H hL;go_in;go_wp2_with fail
  refine aH K.o ?_;go_wp2_with fail
  refine c.m ?_;rintro e y ⟨⟨v,rfl⟩,O⟩;have P:=au (MV M.o rfl N.o O);clear O c1;go_wp2;go_ret;exact⟨⟨_,rfl⟩,P.o⟩
 .have x:i<n:=by omega
  have hb:((n:Int) !=(i:Int))=true:=by simp;omega
  have B:=h.swap i n hi (by omega) (by omega);rw[H]at B;have HSW:=au B;clear h k H hL B hi;go_in;go_wp2_with fail
  refine aH K.o ?_;go_wp2_with fail
  refine aN HSW.o ?_;rintro y ⟨O,cy⟩;have Q:(iR l i n).length=n+1:=by rw[oW];exact M.o
  have⟨HD,HCY,HX,HSL⟩:=c_ (Zc O i n x (by omega)) cy (show(iR l i n).getD n ()=l.getD i ()/\(iR l i n).Perm (l.getD i ()::L)from⟨MT l i n (by rw[M.o];omega),(sK l i n (by rw[M.o];omega) (by rw[M.o];omega) (by omega)).trans N.o⟩) Q;clear O cy Q c1;go_wp2_with fail
  refine HD.m ?_;rintro e z ⟨b,rfl,⟨C,f,E,Z⟩,cz⟩;have r:C.length=n+1:=by rw[f.length_eq];exact HSL.o
  have t:=(E n (aP _)).trans HX.o.1;have T:=au (HCY.o.trans cz);cases b
  .have⟨HU,d⟩:=aK (upC Z i (by omega)) (show C.getD n ()=l.getD i ()/\C.Perm (l.getD i ()::L)/\C.length=n+1 from⟨t,f.trans HX.o.2,r⟩)
   clear f E Z cz r t;go_wp2_with fail
   refine aN HU.o ?_;rintro z2 ⟨⟨l2,F,U,V⟩,W⟩;have X:l2.length=n+1:=by rw[F.length_eq];exact d.o.2.2
   have Y:=(U n x).trans d.o.1;have⟨c,qS,G⟩:=aX (FB V (by omega)) (T.o.trans W) (show l2.getD n ()=l.getD i ()/\l2.Perm (l.getD i ()::L)/\l2.length=n+1 from⟨Y,F.trans d.o.2.1,X⟩);clear F U V W X Y;go_wp2_with fail
   refine c.m ?_;rintro e z3 ⟨⟨v,rfl⟩,j⟩;have P:=au (mf.step (.inl rfl) (qS.o.mono (λq hq=>du _ hq)) (MV G.o.2.2 G.o.1 G.o.2.1 j));clear j;go_wp2;go_ret;exact⟨⟨_,rfl⟩,P.o⟩
  .have⟨c,d⟩:=aK (FB Z (by omega)) (show C.getD n ()=l.getD i ()/\C.Perm (l.getD i ()::L)/\C.length=n+1 from⟨t,f.trans HX.o.2,r⟩)
   clear f E Z cz r t;go_wp2_with fail
   refine c.m ?_;rintro e z3 ⟨⟨v,rfl⟩,j⟩;have P:=au (mf.step (.inl rfl) (T.o.mono (λq hq=>du _ hq)) (MV d.o.2.2 d.o.1 d.o.2.1 j));clear j;go_wp2;go_ret;exact⟨⟨_,rfl⟩,P.o⟩
structure lB(T:Int->Option Int)(l:List iG):Prop where
 nd:(l.map Prod.snd).Nodup
 m:∀id t,T id=some t↔(t,id)∈l
variable{T:Int->Option Int}
def lB.perm{a:List iG}(h:lB T l)(b:a.Perm l):lB T a:=
 ⟨(b.map Prod.snd).nodup_iff.2 h.nd,λid t=>(h.m id t).trans b.mem_iff.symm⟩
def sd(T:Int->Option Int)(id:Int)(v:Option Int):Int->Option Int:=λx=>if x=id then v else T x
def lB.no(h:lB T l){id:Int}(c:T id=none):(∀t,(t,id)∉l)/\qT (l.map Prod.snd) id= -1:=by
 have b:∀t,(t,id)∉l:=λt d=>by
  have:=(h.m id t).2 d;rw[c]at this;cases this
 refine⟨b,uW λj f=> ?_⟩;have a:j<l.length:=by simpa using f
 simp only[aU,uP,jZ a,Option.map_some,Option.getD_some];intro e;exact b l[j].1 (by rw[<-e];exact eA a)
def Eb(h:(l.map Prod.snd).Nodup){i j:Nat}(b:i<l.length)(c:j<l.length)(e:l[i].2=l[j].2):i=j:=by
 have d:=List.pairwise_iff_getElem.1 h;obtain a|a|a:=Nat.lt_trichotomy i j
 .exact bL (by rw[List.getElem_map,List.getElem_map];exact e) (d i j (by simpa using b) (by simpa using c) a)
 .exact a
 .exact bL (by rw[List.getElem_map,List.getElem_map];exact e.symm) (d j i (by simpa using c) (by simpa using b) a)
def lB.yes(h:lB T l){id t:Int}(d:T id=some t):∃k,k<l.length/\l.getD k ()=(t,id)/\qT (l.map Prod.snd) id=k:=by
 have⟨k,b,a⟩:=lG ((h.m id t).1 d);refine⟨k,b,by simp[aU,b,a],uV (by simpa using b) (by simp[aU,b,a]) λj f=> ?_⟩;have c:j<l.length:=by omega
 simp only[aU,uP,jZ c,Option.map_some,Option.getD_some];intro e;have:=Eb h.nd c b (by rw[a];exact e);omega
def lB.push(h:lB T l){id:Int}(g:T id=none)(t:Int):lB (sd T id (some t)) (l++ [(t,id)]):=by
 have d:=(h.no g).1;refine⟨?_,λx y=> ?_⟩
 .rw[gF,List.nodup_append]
  refine⟨h.nd,by simp,λa i b f e=> ?_⟩;simp only[gi,List.map_nil,cm]at f;subst f e;obtain⟨⟨p,q⟩,j,rfl⟩:=List.mem_map.1 i;exact d p j
 .unfold sd
  by_cases e:x=id
  .subst e
   rw[aI rfl];simp only[dJ,cm,Prod.mk.injEq,et,bA];constructor
   .exactλe=>.inr e.symm
   .rintro(e|e)
    .exact bL e (d y)
    .exact e.symm
  .rw[aC e,h.m x y]
   simp only[dJ,cm,Prod.mk.injEq];constructor
   .exact .inl
   .rintro(c|⟨_,c⟩)
    .exact c
    .exact bL c e
def lB.set(h:lB T l){id t t':Int}{k:Nat}(d:k<l.length)(f:l.getD k ()=(t,id)):lB (sd T id (some t')) (l.set k (t',id)):=by
 have g:l[k]=(t,id):=by simpa[aU,d]using f
 have o:(l.set k (t',id)).map Prod.snd=l.map Prod.snd:=by
  rw[List.map_set];apply List.ext_getElem (by simp);intro i q r;rw[List.getElem_set];split
  .rename_i e
   subst e;simp[g]
  .rfl
 refine⟨by rw[o];exact h.nd,λx y=> ?_⟩;unfold sd;by_cases e:x=id
 .subst e
  rw[aI rfl];simp only[bA];constructor
  .rintro rfl
   exact List.mem_iff_getElem.2 ⟨k,by simpa using d,by simp⟩
  .intro b
   have⟨j,c,a⟩:=lG b;have n:j<l.length:=by simpa using c
   rw[List.getElem_set]at a;split at a
   .simpa using a
   .rename_i p
    have:=Eb h.nd n d (by rw[g,a]);omega
 .rw[aC e,h.m x y]
  constructor
  .intro b
   have⟨j,c,a⟩:=lG b;refine List.mem_iff_getElem.2 ⟨j,by simpa using c,?_⟩;rw[List.getElem_set,aC]
   .exact a
   .rintro rfl
    rw[g]at a;simp only[Prod.mk.injEq]at a;exact e a.2.symm
  .intro b
   have⟨j,c,a⟩:=lG b;rw[List.getElem_set]at a;split at a
   .simp only[Prod.mk.injEq]at a
    exact bL a.2.symm e
   .exact List.mem_iff_getElem.2 ⟨j,by simpa using c,a⟩
def lB.del{L:List iG}(h:lB T l){id t:Int}(d:l.Perm ((t,id)::L)):lB (sd T id none) L:=by
 have c:=h.perm d.symm;have a:=c.nd;simp only[gi,ji]at a;refine⟨a.2,λx y=> ?_⟩;unfold sd;by_cases e:x=id
 .subst e
  rw[aI rfl];simp only[reduceCtorEq,false_iff];intro f;exact a.1 (List.mem_map.2 ⟨(y,x),f,rfl⟩)
 .rw[aC e,c.m x y]
  simp only[bQ,Prod.mk.injEq];constructor
  .rintro(⟨_,b⟩|b)
   .exact bL b e
   .exact b
  .exact .inr
def Ax:∀{l:List iG} {k:Nat} (_:k<l.length),l.Perm (l.getD k ()::l.eraseIdx k)
 | [],_,b=>by simp at b
 |a::l,0,_=>by simp
 |a::l,k+1,b=>by
  have c:=Ax (l:=l) (k:=k) (by simpa using b);have e:(a::l).getD (k+1) ()=l.getD k ():=by simp
  rw[e,List.eraseIdx_cons_succ];exact(c.cons a).trans (List.Perm.swap _ _ _)
structure mR(w:ae)(p:Nat)(most:Int)(g:Option Nat)(T:Int->Option Int)(n:Nat):Prop where
 at':∃v l,i_ w p most g v l/\lB T l/\l.length=n
 le:(n:Int)<=most
 m:most<=24
variable{w':ae}{n:Nat}
def mR.kept{a:Int}(h:mR w p a g T n)(e:Kept (p::g.toList) w w'):mR w' p a g T n:=by
 obtain⟨⟨v,l,b,f,i⟩,j,k⟩:=h;exact⟨⟨v,l,⟨(e p (by simp)).trans b.c,b.s.kept (e.mono λx m=>du _ m),b.d,b.n⟩,f,i⟩,j,k⟩
def mR.lt{a:Int}(h:mR w p a g T n):∀x∈p::g.toList,x<w:=by
 obtain⟨⟨v,l,d,e,f⟩,i,j⟩:=h;intro x b;obtain rfl|b:=List.mem_cons.1 b
 .exact az d.c
 .exact d.s.lt x (by simpa using b)
def oF(w:ae)(p:Nat)(most:Int)(g:Option Nat)(T:Int->Option Int)(n:Nat)(w':ae):Prop:=
 (∃g',mR w' p most g' T n/\(g'=g∨∃b,g'=some b/\w.heap.size<=b))/\aQ (p::g.toList) w w'
def mf.Ct{a:Int}{L:List iG}(h:mf w p a g L w')(d:lB T L)(e:L.length=n)(b:(n:Int)<=a)(f:a<=24):oF w p a g T n w':=by
 obtain⟨⟨i,j,k,c,l,m⟩,o⟩:=h;exact⟨⟨i,⟨⟨j,k,l,d.perm c,by rw[c.length_eq];exact e⟩,b,f⟩,m⟩,o⟩
def oF.same{a:Int}(h:mR w p a g T n)(b:aQ ([]:List Nat) w w'):oF w p a g T n w':=
 ⟨⟨g,h.kept (Kept.dC b h.lt (by simp)),.inl rfl⟩,b.mono (by simp)⟩
def oF.from{w1:ae}{a:Int}(h:oF w1 p a g T n w')(c:aQ ([]:List Nat) w w1):oF w p a g T n w':=by
 obtain⟨⟨d,f,i⟩,j⟩:=h;exact⟨⟨d,f,i.imp id λ⟨b,e,k⟩=>⟨b,e,bD c.size k⟩⟩,(c.mono (by simp)).trans j⟩
def Xi(w:ae):aj prog 84 #[an ar 24] w λe w'=>e=ax (aM #[w.heap.size,an ar 0])/\(mR w' w 24 none (λ_=>none) 0/\aQ ([]:List Nat) w w'):=by
 go_in;go_wp2;go_ret2;exact⟨rfl,⟨⟨_,[],⟨a_ _ _,Seg.nil _ _ _,by simp,by simp⟩,⟨by simp,λid t=>by simp⟩,rfl⟩,by decide,by decide⟩,(aQ.refl _ _).alloc _⟩
def Xj{b:Int}(h:mR w p b g T n):aj prog 51 #[p] w λe w'=>e=ax (n:Int)/\w=w':=by
 obtain⟨⟨v,l,c,_,rfl⟩,_,_⟩:=h;have⟨_,i,j,_⟩:=c.cell;obtain⟨a,f,rfl,d,k⟩:=c.s.len;clear c;go_in;go_wp2;go_ret;exact⟨rfl,rfl⟩
def Ay{i:Int}(h:mR w p i g T n)(id:Int):aj prog 256 #[p,(id:Int)] w λe w'=>e=ax (aM #[an ar ((T id).getD 0),aw (T id).isSome])/\ai w w w':=by
 obtain⟨⟨v,l,m,x,rfl⟩,_,_⟩:=h;have d:=TD m id;cases hi:T id with
 |none=>
  rw[(x.no hi).2]at d;have q:=au d;clear d hi;go_in;go_wp2_with fail
  refine aN q.o ?_;intro y f;have r:=au f;clear f;go_wp2;go_ret2;exact⟨rfl,r.o⟩
 |some t=>
  have⟨k,z,j,A⟩:=x.yes hi;rw[A]at d;have⟨q,G⟩:=aK d m;obtain⟨a,H,rfl,B,I⟩:=m.s.len;unfold maxLen at I;have u:=au j;clear d hi A j m;go_in;go_wp2_with fail
  refine aN q.o ?_;intro y f;have c:=G.o.bH (aQ.of_below f);have⟨_,K,L,_⟩:=c.cell;have⟨b,J,M,_,C,N,E⟩:=c.s.cell (by decide) k z;simp only[bG,bK]at C;obtain⟨rfl,rfl⟩:=C;have F:=(E 0 _ (by decide) (by rw[fK l k 0 z (by decide)];rfl)).1;rw[u.o]at F;simp only[bM]at F;have O:(0:Int)<=(k:Int):=by omega
  have P:(k:Int)<(l.length:Int):=by omega
  have r:=au f;clear f c E;go_wp2;go_ret2;exact⟨rfl,r.o⟩
def Az{a:Int}(h:mR w p a g T n)(id:Int):aj prog 124 #[p,(id:Int)] w λe w'=>e=ax (aw (T id).isSome)/\oF w p a g (sd T id none) (if(T id).isSome then n-1 else n) w':=by
 have c:=h;obtain⟨⟨v,l,s,u,rfl⟩,J,q⟩:=h;have i:=TD s id;cases hi:T id with
 |none=>
  rw[(u.no hi).2]at i;have G:sd T id none=T:=by
   funext x;unfold sd;split
   .rename_i e;rw[e,hi]
   .rfl
  rw[G];have⟨A,K⟩:=aK i c;clear i hi G c;go_in;go_wp2_with fail
  refine aN A.o ?_;intro y j;have B:=au (oF.same K.o (aQ.of_below j));clear j;go_wp2;go_ret;exact⟨rfl,B.o⟩
 |some t=>
  have⟨k,C,d,H⟩:=u.yes hi;rw[H]at i;have A:=au i;have E:=s.n;have L:=au s;have b:=Ax C;rw[d]at b;have⟨M,N,r,F⟩:=c_ b (u.del b) (show(l.eraseIdx k).length=l.length-1/\((l.length-1:Nat):Int)<=a from⟨List.length_eraseIdx_of_lt C,by omega⟩) d;clear i hi H d s b c;go_in;go_wp2_with fail
  refine aN A.o ?_;intro y j;have f:=L.o.bH (aQ.of_below j);have⟨_,O,U,_⟩:=f.cell;have⟨P,B⟩:=aK (JB f k C (l.eraseIdx k) (by rw[F.o];exact M.o)) (ch j);clear j f;go_wp2_with fail
  refine P.m ?_;rintro e z ⟨⟨V,rfl⟩,I⟩;have Q:=au ((I.Ct N.o r.o.1 r.o.2 q).from B.o);clear I O;go_wp2;go_ret;exact⟨rfl,Q.o⟩
structure jv where
 least:Int
 seq:Int
 ended:Bool
 heard:Bool
 last:aY
 waits:List aY
structure dQ where
 s:jv
 wv:ah
 wb:Option Nat
instance:Inhabited dQ:=⟨⟨⟨0,0,false,false,(0,ByteArray.empty),[]⟩,.slice none 0 0,none⟩⟩
def dQ.cells(m:dQ):List ah:=[an ar m.s.least,an ar m.s.seq,aw m.s.ended,aw m.s.heard,an ar m.s.last.1,aA m.s.last.2,m.wv]
def dQ.val(m:dQ):ah:=aG #[m.s.least,m.s.seq,aw m.s.ended,aw m.s.heard,an ar m.s.last.1,aA m.s.last.2,m.wv]
def dQ.row(w:ae)(m:dQ):Prop:=Seg w 83 2 m.wb m.wv (m.s.waits.flatMap rK) m.s.waits.length
def ShAt(w:ae)(b o:Nat)(m:dQ):Prop:=b<w/\∀j u,m.cells[j]? =some u->w.cell? ⟨b,o+j,none⟩=some u
def ShAt.below{w':ae}{b o:Nat}{m:dQ}(h:ShAt w b o m)(a:ai w w w'):ShAt w' b o m:=⟨bP h.1 a.size,λj u c=>(a.cell (p:=⟨b,o+j,none⟩) h.1).trans (h.2 j u c)⟩
def jv.wanted(s:jv):Bool:= !s.ended&&s.waits.isEmpty
def jv.qW(s:jv)(x:aY):Bool:=s.wanted&&(if s.heard then cR s.last x else decide (s.least<=x.1))
def zE{b o:Nat}{m:dQ}(h:ShAt w b o m)(q:∃a c,m.wv=av a m.s.waits.length c):aj prog 169 #[aL (some ⟨b,o,none⟩)] w λe w'=>e=ax (aw m.s.wanted)/\w=w':=by
 obtain⟨a,c,g⟩:=q;obtain⟨u,i⟩:=h;have r:=i 2 _ rfl;have n:=i 6 _ rfl;rw[g]at n;obtain⟨⟨j,t,d,k,p,f⟩,v,y⟩:=m;simp only at r n g;clear i g;unfold jv.wanted;simp only;cases d
 .cases f with
  |nil=>
   go_in;go_wp2;go_ret;exact⟨rfl,rfl⟩
  |cons x l=>
   go_in;go_wp2;go_ret;exact⟨by first|rfl|(refine cA ?_;simp;omega),rfl⟩
 .go_in
  go_wp2;go_ret;exact⟨rfl,rfl⟩
def aaj{b o:Nat}{m:dQ}(h:ShAt w b o m)(J:∃a c,m.wv=av a m.s.waits.length c)(x:aY):aj prog 144 #[aL (some ⟨b,o,none⟩),aG #[an ar x.1,aA x.2]] w λe w'=>e=ax (aw (m.s.qW x))/\ai w w w':=by
 obtain⟨f,g⟩:=x;simp only;have⟨u,p⟩:=aD (w.alloc (aB #[f,aA g] 83 (0,0)));have⟨j,q,N⟩:=dt p;have⟨V,W⟩:=dk j;have K:=h.below q.aJ;have r:=au (zE K J);obtain⟨O,k⟩:=K;have L:=k 0 _ rfl;have P:=k 3 _ rfl;have Q:=k 4 _ rfl;have T:=k 5 _ rfl;simp only[bM]at L;have t:m.s.qW (f,g)=(m.s.wanted&&(if m.s.heard then cR m.s.last (f,g)else decide (m.s.least<=f))):=rfl;generalize m.s.wanted=wd at*;obtain⟨⟨d,U,v,i,⟨l,n⟩,A⟩,X,Y⟩:=m;simp only at L P Q T t;have B:=au (show∀y,aj prog 167 #[aG #[l,aA n],aG #[f,aA g]] y λe w'=>e=ax (aw (cR (l,n) (f,g)))/\ai y y w' fromλy=>oT l f n g y);generalize cR (l,n) (f,g)=less at*;rw[t];have⟨C,G⟩:=aK p q.aJ;clear p q j k t h J;cases wd
 .simp only[Bool.false_and]
  go_in;go_upto_region 1 with fail
  rw[<-C.o];go_wp2_with fail
  refine aH r.o ?_;go_wp2;go_ret;exact⟨rfl,G.o⟩
 .cases i
  .have E:=au (show(true&&if false=true then less else decide (d<=f))=decide (d<=f)from rfl)
   have⟨z,M⟩:=aD (true&&if false=true then less else decide (d<=f));rw[<-M]at E⊢;clear M;by_cases F:d<=f
   all_goals
    have H:=au F;go_in;go_upto_region 1 with fail
    rw[<-C.o];go_wp2_with fail
    refine aH r.o ?_;go_wp2_with fail
    go_quiet (fail);have I:=au (G.o.trans ((bo u nq).aJ.mono G.o.size));go_wp2;go_ret;exact⟨cA (by first|(rw[E.o];done)|(rw[E.o];simp[H.o])),I.o⟩
  .go_in
   go_upto_region 1 with fail
   rw[<-C.o];go_wp2_with fail
   refine aH r.o ?_;go_wp2_with fail
   refine cD (by kernel_rfl) (by kernel_rfl) ?_
   repeat (go_big_quiet_step (first|(go_at_call 167;exact cH (B.o _))|fail))
   refine eV ?_;rintro _ ⟨y,rfl⟩;have I:=au (gR G.o (aP _) y);go_wp2;go_ret;exact⟨rfl,I.o⟩
def Cu(ms:List dQ):List ah:=ms.flatMap dQ.cells
def tV(L:List dQ)(k j:Nat)(b:k<L.length)(f:j<7):(Cu L)[k*7+j]? =(L.getD k ()).cells[j]? :=by
 induction L generalizing k with
 |nil=>simp at b
 |cons a l c=>
  have e:Cu (a::l)=a.cells++Cu l:=by simp[Cu]
  have d:a.cells.length=7:=rfl;cases k with
  |zero=>
   rw[e,Nat.zero_mul,eJ,gZ (by omega)];rfl
  |succ k=>
   rw[e,g_ (by omega),d,show(k+1)*7+j-7=k*7+j by omega,c k (by simpa using b)];rfl
def kQ(l:List Bool):Int:=match l.findIdx? id with
 |some i=>i
 |none=> -1
def Ec{ms:List dQ}{a:dQ->Bool}{k:Nat}(c:k<ms.length)(h:a (ms.getD k ())=true)(d:∀j,j<k->a (ms.getD j ())=false):kQ (ms.map a)=k:=by
 have:(ms.map a).findIdx? id=some k:=by
  refine List.findIdx?_eq_some_iff_getElem.2 ⟨by simpa using c,?_,λj e=> ?_⟩
  .rw[List.getElem_map]
   simpa[aU,c]using h
  .have:=d j e
   have b:j<ms.length:=by omega
   rw[List.getElem_map];simpa[aU,b]using this
 unfold kQ;rw[this]
def Ee{ms:List dQ}{a:dQ->Bool}(c:∀j,j<ms.length->a (ms.getD j ())=false):kQ (ms.map a)= -1:=by
 have:(ms.map a).findIdx? id=none:=by
  rw[List.findIdx?_eq_none_iff];intro y d;obtain⟨m,e,rfl⟩:=List.mem_map.1 d;obtain⟨i,b,rfl⟩:=lG e;have:=c i b;simpa[aU,b]using this
 unfold kQ;rw[this]
def JC(ms:List dQ)(a:dQ->Bool):decide (0<=kQ (ms.map a))=ms.any a:=by
 unfold kQ;cases h:(ms.map a).findIdx? id with
 |none=>
  rw[List.findIdx?_eq_none_iff]at h;have:ms.any a=false:=by
   rw[List.any_eq_false];intro m c;have:=h (a m) (List.mem_map.2 ⟨m,c,rfl⟩);simpa using this
  rw[this];rfl
 |some i=>
  have⟨d,e,_⟩:=List.findIdx?_eq_some_iff_getElem.1 h;have:ms.any a=true:=by
   rw[Fm];have b:i<ms.length:=by simpa using d
   exact⟨ms[i],eA b,by simpa using e⟩
  rw[this];simp
def aak{v:ah}{ms:List dQ}(d:dQ->Bool)(h:Seg w 226 7 g v (Cu ms) ms.length)(hn:ms.length<=1000)
 (O:∀y m,m∈ms->ai w w y->aj prog 145 #[m.val] y λe w'=>e=ax (aw (d m))/\ai y y w'):
 aj prog 168 #[v,.func (Fn.func 145) #[] #[]] w λe w'=>e=ax (kQ (ms.map d):Int)/\ai w w w':=by
 obtain⟨a,cap,rfl,P,hm⟩:=h.len;unfold maxLen at hm;have⟨H,G⟩:=aK h O;have⟨z,n⟩:=aD (kQ (ms.map d));have⟨HN,HE⟩:=aK (show∀k:Nat,k<ms.length->d (ms.getD k ())=true->(∀j,j<k->d (ms.getD j ())=false)->z=k fromλk Q h1 I=>by rw[n];exact Ec Q h1 I) (show(∀j,j<ms.length->d (ms.getD j ())=false)->z= -1 fromλI=>by rw[n];exact Ee I);rw[<-n];clear h O n;go_in;go_wp2_with fail
 go_loopw [8] (λi wr=>∃k:Nat,i=an ar k/\k<=ms.length/\(∀j,j<k->d (ms.getD j ())=false)/\ai w w wr) (λi _=>ms.length-(intOf i).toNat)
 case atStart=>exact⟨0,rfl,bz _,λj s=>by omega,aO _ _⟩
 case round=>
  obtain⟨k,rfl,Q,J,t⟩:=hrel;have⟨K,A⟩:=aK J t;by_cases f:k<ms.length
  .have⟨b,off,cp,_,T,hl,U⟩:=(H.o.bH (ch t) (by simp)).cell (by decide) k f
   simp only[bG,bK]at T;obtain⟨rfl,rfl⟩:=T;have c:=λj u s (hu:(ms.getD k ()).cells[j]? =some u)=>(U j u s (by rw[tV ms k j f s];exact hu)).1
   have L:=c 0 _ (by decide) rfl;have V:=c 1 _ (by decide) rfl;have W:=c 2 _ (by decide) rfl;have X:=c 3 _ (by decide) rfl;have Y:=c 4 _ (by decide) rfl;have Z:=c 5 _ (by decide) rfl;have a6:=c 6 _ (by decide) rfl;simp only[bM]at L;have q1:(0:Int)<=(k:Int):=by omega
   have q2:(k:Int)<(ms.length:Int):=by omega
   have l:=G.o wr (ms.getD k ()) (bh ms k f) t;have⟨x,M⟩:=aD (ms.getD k ());rw[<-M]at L V W X Y Z a6 l;have HX:=au M;have B:∀r,d x=r->d (ms.getD k ())=r:=λr e=>by rw[<-HX.o];exact e
   have C:=au B;have⟨r,q⟩:=aD (d x);rw[<-q]at l;have E:=au q;clear U c J t M B q;obtain⟨⟨x0,x1,x2,x3,⟨x4,x5⟩,xw⟩,xv,xb⟩:=x;simp only at L V W X Y Z a6;have p:aj prog 145 #[aG #[x0,x1,aw x2,aw x3,x4,aA x5,xv]] wr λe w'=>e=ax (aw r)/\ai wr wr w':=l
   have HC:=au p;clear l p;cases r
   .go_wp2_with fail
    refine aN HC.o ?_;intro y F;have N:=au (A.o.trans (F.mono A.o.size));clear F;go_wp2;go_roundw
    case rel=>exact⟨k+1,by simp,by omega,λj s=>by
     by_cases e:j=k
     .rw[e];exact C.o false E.o.symm
     .exact K.o j (by omega),N.o⟩
    case measure=>simp[intOf];omega
   .have n:=HN.o k f (C.o true E.o.symm) K.o
    subst n;go_wp2_with fail
    refine aN HC.o ?_;intro y F;have N:=au (A.o.trans (F.mono A.o.size));clear F;go_wp2;go_ret;exact⟨rfl,N.o⟩
  .have n:=HE.o λj s=>K.o j (by omega)
   subst n;clear J t;go_wp2;go_ret;exact⟨rfl,A.o⟩
def aal{v:ah}{ms:List dQ}(b:dQ->Bool)(h:Seg w 226 7 g v (Cu ms) ms.length)(i:ms.length<=1000)
 (c:∀y m,m∈ms->ai w w y->aj prog 145 #[m.val] y λe w'=>e=ax (aw (b m))/\ai y y w'):
 aj prog 142 #[v,.func (Fn.func 145) #[] #[]] w λe w'=>e=ax (aw (ms.any b))/\ai w w w':=by
 have j:=au (aak b h i c);rw[<-JC];generalize kQ (ms.map b)=z at*;obtain⟨a,k,rfl,d,n⟩:=h.len;clear h c;go_in;go_wp2_with fail
 refine aN j.o ?_;intro y f;have l:=au f;clear f;go_wp2;go_ret;exact⟨rfl,l.o⟩
def aam{v:ah}{ms:List dQ}(qb:Nat)(d:dQ->Bool)(h:Seg w 226 7 g v (Cu ms) ms.length)(hn:ms.length<=1000)
 (O:∀y m,m∈ms->ai w w y->aj prog 143 #[m.val,qb] y λe w'=>e=ax (aw (d m))/\ai y y w'):
 aj prog 168 #[v,.func (Fn.func 143) #[] #[qb]] w λe w'=>e=ax (kQ (ms.map d):Int)/\ai w w w':=by
 obtain⟨a,cap,rfl,P,hm⟩:=h.len;unfold maxLen at hm;have⟨H,G⟩:=aK h O;have⟨z,n⟩:=aD (kQ (ms.map d));have⟨HN,HE⟩:=aK (show∀k:Nat,k<ms.length->d (ms.getD k ())=true->(∀j,j<k->d (ms.getD j ())=false)->z=k fromλk Q h1 I=>by rw[n];exact Ec Q h1 I) (show(∀j,j<ms.length->d (ms.getD j ())=false)->z= -1 fromλI=>by rw[n];exact Ee I);rw[<-n];clear h O n;go_in;go_wp2_with fail
 go_loopw [8] (λi wr=>∃k:Nat,i=an ar k/\k<=ms.length/\(∀j,j<k->d (ms.getD j ())=false)/\ai w w wr) (λi _=>ms.length-(intOf i).toNat)
 case atStart=>exact⟨0,rfl,bz _,λj s=>by omega,aO _ _⟩
 case round=>
  obtain⟨k,rfl,Q,J,t⟩:=hrel;have⟨K,A⟩:=aK J t;by_cases f:k<ms.length
  .have⟨b,off,cp,_,T,hl,U⟩:=(H.o.bH (ch t) (by simp)).cell (by decide) k f
   simp only[bG,bK]at T;obtain⟨rfl,rfl⟩:=T;have c:=λj u s (hu:(ms.getD k ()).cells[j]? =some u)=>(U j u s (by rw[tV ms k j f s];exact hu)).1
   have L:=c 0 _ (by decide) rfl;have V:=c 1 _ (by decide) rfl;have W:=c 2 _ (by decide) rfl;have X:=c 3 _ (by decide) rfl;have Y:=c 4 _ (by decide) rfl;have Z:=c 5 _ (by decide) rfl;have a6:=c 6 _ (by decide) rfl;simp only[bM]at L;have q1:(0:Int)<=(k:Int):=by omega
   have q2:(k:Int)<(ms.length:Int):=by omega
   have l:=G.o wr (ms.getD k ()) (bh ms k f) t;have⟨x,M⟩:=aD (ms.getD k ());rw[<-M]at L V W X Y Z a6 l;have HX:=au M;have B:∀r,d x=r->d (ms.getD k ())=r:=λr e=>by rw[<-HX.o];exact e
   have C:=au B;have⟨r,q⟩:=aD (d x);rw[<-q]at l;have E:=au q;clear U c J t M B q;obtain⟨⟨x0,x1,x2,x3,⟨x4,x5⟩,xw⟩,xv,xb⟩:=x;simp only at L V W X Y Z a6;have p:aj prog 143 #[aG #[x0,x1,aw x2,aw x3,x4,aA x5,xv],qb] wr λe w'=>e=ax (aw r)/\ai wr wr w':=l
   have HC:=au p;clear l p;cases r
   .go_wp2_with fail
    refine aN HC.o ?_;intro y F;have N:=au (A.o.trans (F.mono A.o.size));clear F;go_wp2;go_roundw
    case rel=>exact⟨k+1,by simp,by omega,λj s=>by
     by_cases e:j=k
     .rw[e];exact C.o false E.o.symm
     .exact K.o j (by omega),N.o⟩
    case measure=>simp[intOf];omega
   .have n:=HN.o k f (C.o true E.o.symm) K.o
    subst n;go_wp2_with fail
    refine aN HC.o ?_;intro y F;have N:=au (A.o.trans (F.mono A.o.size));clear F;go_wp2;go_ret;exact⟨rfl,N.o⟩
  .have n:=HE.o λj s=>K.o j (by omega)
   subst n;clear J t;go_wp2;go_ret;exact⟨rfl,A.o⟩
def aan{v:ah}{ms:List dQ}(qb:Nat)(b:dQ->Bool)(h:Seg w 226 7 g v (Cu ms) ms.length)(i:ms.length<=1000)
 (c:∀y m,m∈ms->ai w w y->aj prog 143 #[m.val,qb] y λe w'=>e=ax (aw (b m))/\ai y y w'):
 aj prog 142 #[v,.func (Fn.func 143) #[] #[qb]] w λe w'=>e=ax (aw (ms.any b))/\ai w w w':=by
 have j:=au (aam qb b h i c);rw[<-JC];generalize kQ (ms.map b)=z at*;obtain⟨a,k,rfl,d,n⟩:=h.len;clear h c;go_in;go_wp2_with fail
 refine aN j.o ?_;intro y f;have l:=au f;clear f;go_wp2;go_ret;exact⟨rfl,l.o⟩
def dT(l:List aY):List ah:=l.flatMap rK
structure ir(w:ae)(p:Nat)(n:Int)(gs gt:Option Nat)(sv tv:ah)(ms:List dQ)(told:List aY):Prop where
 c:w.heap[p]? =some (aB #[an ar n,sv,tv] 224 (0,0))
 s:Seg w 226 7 gs sv (Cu ms) ms.length
 t:Seg w 83 2 gt tv (dT told) told.length
 r:∀m∈ms,m.row w
 d:(p::(gs.toList++gt.toList)).Nodup
 e:∀m∈ms,∀x,m.wb=some x->x∉p::(gs.toList++gt.toList)
 l:ms.length<=6
 n1:1<=n
 n2:n<=10
 tl:(told.length:Int)<=n
 wl:∀m∈ms,m.s.waits.length<=5
def eh(p:Nat)(gs gt:Option Nat)(ms:List dQ):List Nat:=p::(gs.toList++gt.toList++ms.filterMap dQ.wb)
variable{n:Int}
def ir.kept{w':ae}{f g:Option Nat}{j k:ah}{ms:List dQ}{told:List aY}(h:ir w p n f g j k ms told)(b:Kept (eh p f g ms) w w'):ir w' p n f g j k ms told:=
 ⟨(b p (by simp[eh])).trans h.c,h.s.kept (b.mono λx a=>by simp[eh]at a⊢;simp[a]),h.t.kept (b.mono λx a=>by simp[eh]at a⊢;simp[a]),λm o=>(show Seg w' 83 2 m.wb m.wv _ _ from(show Seg w 83 2 m.wb m.wv _ _ from h.r m o).kept (b.mono λx a=>by
  have i:m.wb=some x:=by simpa using a
  simp only[eh,bQ,dJ,mF];exact .inr (.inr ⟨m,o,i⟩))),h.d,h.e,h.l,h.n1,h.n2,h.tl,h.wl⟩
def ir.lt{b d:Option Nat}{e f:ah}{ms:List dQ}{told:List aY}(h:ir w p n b d e f ms told):∀x∈eh p b d ms,x<w:=by
 intro x a;simp only[eh,bQ,dJ,mF,eZ]at a;obtain rfl|(a|a)|⟨m,g,a⟩:=a
 .exact az h.c
 .exact h.s.lt x a
 .exact h.t.lt x a
 .exact(show Seg w 83 2 m.wb m.wv _ _ from h.r m g).lt x a
def ir.bH{w':ae}{a b:Option Nat}{c d:ah}{ms:List dQ}{told:List aY}(h:ir w p n a b c d ms told)(e:aQ ([]:List Nat) w w'):ir w' p n a b c d ms told:=h.kept (Kept.dC e h.lt (by simp))
def ir.cell{e f:Option Nat}{b d:ah}{ms:List dQ}{told:List aY}(h:ir w p n e f b d ms told):w.cell? p=n/\w.cell? ⟨p,1,none⟩=b/\w.cell? ⟨p,2,none⟩=d/\p<w/\∀o,w.frozen? ⟨p,o,none⟩=false:=by
 have a:=h.c;exact⟨aF a _ rfl,aF a _ rfl,aF a _ rfl,az a,λo=>bB a _⟩
def dQ.row.len{m:dQ}(h:m.row w):∃a c,m.wv=av a m.s.waits.length c:=by
 have⟨a,c,e,_⟩:=Seg.len h;exact⟨a,c,e⟩
def jv.open(s:jv):Bool:= !s.ended||decide (0<s.waits.length)
def jM(n:Int)(ss:List jv)(told:List aY):Bool:=decide ((told.length:Int)=n)|| !ss.any jv.open
def adP{m:dQ}(r:∃a c,m.wv=av a m.s.waits.length c):aj prog 145 #[m.val] w λe w'=>e=ax (aw m.s.open)/\ai w w w':=by
 obtain⟨a,c,t⟩:=r;obtain⟨⟨f,g,b,h,⟨i,j⟩,d⟩,A,B⟩:=m;simp only at t;subst t;have⟨u,k⟩:=aD (w.alloc (aB #[f,g,aw b,aw h,i,aA j,av a d.length c] 226 (0,0)));have⟨l,v,r⟩:=dt k;have C:=aF l 2 rfl;have E:=aF l 6 rfl;have⟨x,G⟩:=aK k v.aJ;clear k v l
 show aj prog 145 #[aG #[f,g,aw b,aw h,i,aA j,av a d.length c]] w _
 have q:=au (show(jv.open ⟨f,g,b,h,(i,j),d⟩)=(!b||decide (0<d.length))from rfl);have⟨z,y⟩:=aD (jv.open ⟨f,g,b,h,(i,j),d⟩);rw[<-y]at q⊢;clear y;cases b
 .go_in
  go_upto_region 1 with fail
  rw[<-x.o];go_wp2;go_ret;exact⟨cA (by rw[q.o];rfl),G.o⟩
 .go_in
  go_upto_region 1 with fail
  rw[<-x.o];go_wp2;go_ret;exact⟨cA (by rw[q.o];simp),G.o⟩
def any_map(ms:List dQ)(f:jv->Bool):(ms.any λm=>f m.s)=(ms.map dQ.s).any f:=by simp[List.any_map,Function.comp_def]
def JD{x A:Option Nat}{B C:ah}{ms:List dQ}{told:List aY}(h:ir w p n x A B C ms told):
 aj prog 114 #[p] w λe w'=>e=ax (aw (jM n (ms.map dQ.s) told))/\ai w w w':=by
 have K:=h.l;have E:=au (aal (λm=>m.s.open) h.s (by omega) (λy m F c=>by
  have:=adP (w:=y) (m:=m) ((show m.row w from h.r m F).len);exact this))
 have f:=au (show jM n (ms.map dQ.s) told=(decide ((told.length:Int)=n)|| !(ms.any λm=>m.s.open))by unfold jM;rw[any_map]);have⟨z,k⟩:=aD (jM n (ms.map dQ.s) told);rw[<-k]at f⊢;obtain⟨a,G,rfl,_⟩:=h.s.len;obtain⟨L,M,rfl,H,g⟩:=h.t.len;unfold maxLen at g;have⟨q,I,u,v,_⟩:=h.cell;generalize(ms.any λm=>m.s.open)=o at*;clear h k;go_in;go_wp2_with fail
 refine aN E.o ?_;intro y c;have N:=(c.cell (p:=⟨p,0,none⟩) v).trans q;have O:=(c.cell (p:=⟨p,2,none⟩) v).trans u;have d:=au c;clear c q I u;by_cases b:(told.length:Int)=n
 .have J:((told.length:Int)==n)=true:=by simp[b]
  have i:=au b;clear b;go_wp2_with fail
  go_quiet (fail);have j:=au (d.o.trans ((bo y nq).aJ.mono d.o.size));go_wp2;go_ret;exact⟨cA (by rw[f.o];simp[i.o]),j.o⟩
 .have J:((told.length:Int)==n)=false:=by simp[b]
  have i:=au b;clear b;go_wp2_with fail
  go_quiet (fail);have j:=au (d.o.trans ((bo y nq).aJ.mono d.o.size));go_wp2;go_ret;exact⟨cA (by rw[f.o];simp[i.o]),j.o⟩
def jv.hd(s:jv):aY:=s.waits.headD (0,ByteArray.empty)
def dQ.row.head{w:ae}{m:dQ}(h:m.row w)(f:m.s.waits.isEmpty=false):∃c d a,m.wv=av (some ⟨c,d,none⟩) m.s.waits.length a/\c<w.heap.size/\w.cell? ⟨c,d,none⟩=(m.s.hd.1:Int)/\w.cell? ⟨c,d+1,none⟩=some (aA m.s.hd.2):=by
 obtain⟨s,i,j⟩:=m;obtain⟨o,p,q,r,t,l⟩:=s;simp only at f;cases l with
 |nil=>simp at f
 |cons x l=>
  have⟨b,e,a,_,k,n,g⟩:=Seg.cell (show Seg w 83 2 j i ((x::l).flatMap rK) (x::l).length from h) (by decide) 0 (by simp);refine⟨b,e,a,k,n,?_,?_⟩
  .have:=(g 0 (x.1:Int) (by decide) (by simp[rK])).1
   simpa[jv.hd]using this
  .have:=(g 1 (aA x.2) (by decide) (by simp[rK])).1
   simpa[jv.hd]using this
def aao{w:ae}{q b o:Nat}{mm m:dQ}(N:mm.row w)(l:mm.s.waits.isEmpty=false)(x:ShAt w b o mm)(O:w.cell? q=some (aL (some ⟨b,o,none⟩)))(A:q<w)(Z:∃a c,m.wv=av a m.s.waits.length c):
 aj prog 143 #[m.val,q] w λe w'=>e=ax (aw (m.s.qW mm.s.hd))/\ai w w w':=by
 have⟨P,Q,rc,hv,g,T,U⟩:=N.head l;have hb:=x.1;have r:=x.2 6 _ rfl;rw[hv]at r;have f:0<mm.s.waits.length:=by
  cases h:mm.s.waits with
  |nil=>rw[h]at l;simp at l
  |cons=>simp
 have⟨n,i⟩:=aD mm.s.waits.length;rw[<-i]at r f;obtain⟨a,c,k⟩:=Z;obtain⟨⟨B,C,E,F,⟨H,I⟩,t⟩,xv,xb⟩:=m;simp only at k;subst k;have⟨u,J⟩:=aD (w.alloc (aB #[B,C,aw E,aw F,H,aA I,av a t.length c] 226 (0,0)));have⟨V,W,hll⟩:=dt J;have X:ShAt u w 0 ⟨⟨B,C,E,F,(H,I),t⟩,av a t.length c,xb⟩:=⟨by omega,λj v hj=>by simp[World.cell?,V];simpa[dQ.cells]using hj⟩;have d:=W.aJ;have K:=au (aaj X ⟨a,c,rfl⟩ mm.s.hd);have hq':=(d.cell (p:=⟨q,0,none⟩) A).trans O;have h6':=(d.cell (p:=⟨b,o+6,none⟩) hb).trans r;have L:=(d.cell (p:=⟨P,Q,none⟩) g).trans T;have M:=(d.cell (p:=⟨P,Q+1,none⟩) g).trans U;simp only at K
 show aj prog 143 #[aG #[B,C,aw E,aw F,H,aA I,av a t.length c],q] w _
 generalize jv.qW _ _=z at*;generalize mm.s.hd=hd at*;obtain⟨d0,d1⟩:=hd;simp only at K L M;have⟨HU,G⟩:=aK J d;have q1:(0:Int)<(n:Int):=by omega
 clear J W V d O r T U X x N l f i;go_in;go_upto_region 1 with fail
 rw[<-HU.o];go_wp2_with fail
 refine aN K.o ?_;intro y Y;have HY:=au (G.o.trans (Y.mono G.o.size));clear Y;go_wp2;go_ret;exact⟨rfl,HY.o⟩
def fP(ss:Nat->jv):Nat->Option Nat
 |0=>none
 |k+1=>if(ss k).waits.isEmpty then fP ss k else match fP ss k with
  |none=>some k
  |some j=>if cR (ss k).hd (ss j).hd then some k else some j
def sM{a:Nat->jv}{k j:Nat}(h:fP a k=some j):j<k/\(a j).waits.isEmpty=false:=by
 induction k with
 |zero=>simp[fP]at h
 |succ k c=>
  unfold fP at h;by_cases b:(a k).waits.isEmpty=true
  .rw[aI b]at h
   have:=c h;exact⟨by omega,this.2⟩
  .rw[aC b]at h
   cases ha:fP a k with
   |none=>
    rw[ha]at h;obtain rfl:k=j:=by simpa using h
    exact⟨by omega,by simpa using b⟩
   |some i=>
    rw[ha]at h;simp only at h;split at h
    .obtain rfl:k=j:=by simpa using h
     exact⟨by omega,by simpa using b⟩
    .obtain rfl:i=j:=by simpa using h
     have:=c ha;exact⟨by omega,this.2⟩
def MW(a:Nat×Nat):Option Nat->ah
 |none=>aL none
 |some j=>aL (some ⟨a.1,a.2+j*7,none⟩)
def Seg.aR{w:ae}{g:Option Nat}{v:ah}{ms:List dQ}(h:Seg w 226 7 g v (Cu ms) ms.length)(p:0<ms.length):∃b a c,g=some b/\v=av (some ⟨b,a,none⟩) ms.length c/\b<w.heap.size/\∀k,k<ms.length->ShAt w b (a+k*7) (ms.getD k ()):=by
 have⟨b,a,c,q,f,i,_⟩:=h.cell (by decide) 0 p;refine⟨b,a,c,q,f,i,λk l=>⟨i,λj u d=> ?_⟩⟩;have⟨s,m,n,_,e,_,r⟩:=h.cell (by decide) k l;rw[f]at e;simp only[bG,bA,dr,bK]at e;obtain⟨⟨rfl,rfl,_⟩,rfl⟩:=e;have o:j<7:=by
  have:j<(ms.getD k ()).cells.length:=by
   rw[ZL]at d;exact d.1
  exact this
 exact(r j u o (by rw[tV ms k j l o];exact d)).1
def aap{w:ae}{p:Nat}{n:Int}{gs gt:Option Nat}{sv tv:ah}{ms:List dQ}{told:List aY}(h:ir w p n gs gt sv tv ms told)(a:Nat×Nat)(ha:∀k,k<ms.length->∃t,gs=some a.1/\sv=av (some ⟨a.1,a.2,none⟩) ms.length t):
 aj prog 141 #[p] w λe w'=>e=ax (MW a (fP (λk=>(ms.getD k ()).s) ms.length))/\ai w w w':=by
 have⟨F,hF⟩:=aD (fP (λk=>(ms.getD k ()).s));rw[<-hF];have⟨MO,W3,HFN,TI,I1,HA⟩:=eC (show F 0=none by rw[hF];rfl) (show∀k,(ms.getD k ()).s.waits.isEmpty=true->F (k+1)=F k fromλk u=>by rw[hF];simp only[fP];rw[aI u]) (show∀k,(ms.getD k ()).s.waits.isEmpty=false->F k=none->F (k+1)=some k fromλk u C=>by rw[hF]at C⊢;simp only[fP];rw[u,C];rfl) (show∀k j b,(ms.getD k ()).s.waits.isEmpty=false->F k=some j->cR (ms.getD k ()).s.hd (ms.getD j ()).s.hd=b->F (k+1)=if b then some k else some j fromλk j b u C h3=>by rw[hF]at C⊢;simp only[fP];rw[u,C];simp only[h3];rfl) (show∀k j,F k=some j->j<k/\(ms.getD j ()).s.waits.isEmpty=false fromλk j C=>by rw[hF]at C;exact sM C) ha;have⟨HS,HR⟩:=aK (show 0<ms.length->∃b E t,gs=some b/\sv=av (some ⟨b,E,none⟩) ms.length t/\b<w.heap.size/\∀k,k<ms.length->ShAt w b (E+k*7) (ms.getD k ())from h.s.aR) (show∀k,k<ms.length->(ms.getD k ()).row w fromλk u=>h.r _ (bh ms k u));have hln:=h.l;have⟨c0,N,c2,hp,_⟩:=h.cell;have⟨sa,t,O,hcap,hm⟩:=h.s.len;unfold maxLen at hm;have HSV:=au O;subst O;clear ha h hF c0 c2;go_in;go_wp2_with fail
 go_loopw [3,11] (λv i wr=>∃k:Nat,i=an ar k/\k<=ms.length/\v=MW a (F k)/\ai w w wr) (λ_ i _=>ms.length-(intOf i).toNat)
 case atStart=>exact⟨0,rfl,bz _,by rw[MO.o];rfl,aO _ _⟩
 case round=>
  obtain⟨k,rfl,u,rfl,d⟩:=hrel;have M:=au d;by_cases x:k<ms.length
  .have⟨b,E,cp,_,f,hl,P⟩:=HS.o (by omega)
   have⟨cp',_,c⟩:=HA.o k x;rw[f]at c;simp only[bG,bA,dr,bK]at f c;obtain⟨rfl,rfl⟩:=f;obtain⟨⟨rfl,rfl,_⟩,_⟩:=c;have d1:=(d.cell (p:=⟨p,1,none⟩) hp).trans N;have z:=(P k x).below d;have k6:=z.2 6 _ rfl;have q1:(0:Int)<=(k:Int):=by omega
   have q2:(k:Int)<(ms.length:Int):=by omega
   have⟨ya,yc,A,G,B⟩:=Seg.len (show Seg w 83 2 (ms.getD k ()).wb (ms.getD k ()).wv _ _ from HR.o k x);unfold maxLen at B;by_cases f:(ms.getD k ()).s.waits.isEmpty=true
   .have Q:=au (W3.o k f)
    have T:(ms.getD k ()).s.waits.length=0:=by simpa using f
    rw[A,T]at k6;clear P z A T f G B d N;go_wp2_with fail
    go_quiet (fail);have U:=au (M.o.trans ((bo wr nq).aJ.mono M.o.size));go_wp2;go_roundw
    case rel=>exact⟨k+1,rfl,by omega,by rw[Q.o],U.o⟩
    case measure=>simp[intOf];omega
   .have c:(ms.getD k ()).s.waits.isEmpty=false:=by simpa using f
    have⟨rb,ro,rc,hv,H,r0,r1⟩:=(HR.o k x).head c;have q3:0<(ms.getD k ()).s.waits.length:=by
     obtain e|e:=Nat.eq_zero_or_pos (ms.getD k ()).s.waits.length
     .simp at e;simp[e]at f
     .exact e
    rw[hv]at k6;have V:=(d.cell (p:=⟨rb,ro,none⟩) H).trans r0;have W:=(d.cell (p:=⟨rb,ro+1,none⟩) H).trans r1;have⟨m,I⟩:=aD ((ms.getD k ()).s.waits.length);rw[<-I]at k6 q3;cases hf:F k with
    |none=>
     have Q:=au (HFN.o k c hf);have g:MW a none=aL none:=rfl;rw[g];clear P z A hv f c G B d N r0 r1 hf g I;go_wp2_with fail
     go_quiet (fail);have U:=au (M.o.trans ((bo wr nq).aJ.mono M.o.size));go_wp2;go_roundw
     case rel=>exact⟨k+1,rfl,by omega,by rw[Q.o];rfl,U.o⟩
     case measure=>simp[intOf];omega
    |some j=>
     have⟨hjk,J⟩:=I1.o k j hf;have⟨X,Y,rc2,Z,q,s0,s1⟩:=(HR.o j (by omega)).head J;have j6:=((P j (by omega)).below d).2 6 _ rfl;rw[Z]at j6;have q5:0<(ms.getD j ()).s.waits.length:=by
      obtain e|e:=Nat.eq_zero_or_pos (ms.getD j ()).s.waits.length
      .simp at e;simp[e]at J
      .exact e
     have s0':=(d.cell (p:=⟨X,Y,none⟩) q).trans s0;have s1':=(d.cell (p:=⟨X,Y+1,none⟩) q).trans s1;have⟨m2,hm2⟩:=aD ((ms.getD j ()).s.waits.length);rw[<-hm2]at j6 q5;have K:=au (λb=>TI.o k j b c hf);have⟨y1,hy1⟩:=aD ((ms.getD k ()).s.hd);have⟨y2,hy2⟩:=aD ((ms.getD j ()).s.hd);rw[<-hy1]at V W K;rw[<-hy2]at s0' s1' K;clear hy1 hy2;obtain⟨a0,a1⟩:=y1;obtain⟨b0,b1⟩:=y2;simp only at V W s0' s1';have FM:=au (show∀y,aj prog 167 #[aG #[a0,aA a1],aG #[b0,aA b1]] y λe w'=>e=ax (aw (cR (a0,a1) (b0,b1)))/\ai y y w' fromλy=>oT a0 b0 a1 b1 y);generalize cR (a0,a1) (b0,b1)=bb at*;have Q:=au (K.o bb rfl);have g:MW a (some j)=aL (some ⟨a.1,a.2+j*7,none⟩):=rfl;have g1:=bP hl d.size;have g2:=bP H d.size;have g3:=bP q d.size;rw[g];obtain⟨ab,ao⟩:=a;simp only at*;clear P z A hv Z f c G B d N r0 r1 s0 s1 hf g I hm2 J;cases bb
     all_goals
      go_upto_region 6 with fail
      refine cD (by kernel_rfl) (by kernel_rfl) ?_
      repeat (go_big_quiet_step (first|(go_at_call 167;exact cH (FM.o _))|fail))
      refine eV ?_;rintro _ ⟨y,rfl⟩;have U:=au (gR M.o (aP _) y);go_wp2;go_roundw
      case rel=>exact⟨k+1,rfl,by omega,by rw[Q.o];rfl,U.o⟩
      case measure=>simp[intOf];omega
  .have hz:k=ms.length:=by omega
   subst hz;clear d N u;have⟨fz,L⟩:=aD (MW a (F ms.length));rw[<-L];have HFZ:=au L;clear L;go_wp2;go_ret;exact⟨congrArg Ending.returned HFZ.o,M.o⟩
theorem Qy{b:Type}[Inhabited b]{f:b->List ah}{sz:Nat}(g:∀x,(f x).length=sz)(L:List b)(k j:Nat)(x:b)(u:ah)(c:k<L.length)(d:f x=(f (L.getD k ())).set j u)(i:j<sz):(L.set k x).flatMap f=(L.flatMap f).set (k*sz+j) u:=by
 induction L generalizing k with
 |nil=>simp at c
 |cons a l h=>
  have e:=g a;cases k with
  |zero=>
   simp only[cC,eI,Nat.zero_mul,eJ];rw[List.set_append_left _ _ (by omega),d];rfl
  |succ k=>
   simp only[ct,eI];rw[List.set_append_right _ _ (by rw[e,Nat.add_mul];omega),h k (by simpa using c) d,e,show(k+1)*sz+j-sz=k*sz+j by rw[Nat.add_mul];omega]
def jv.pop(s:jv):jv:={s with waits:=s.waits.tail}
instance:Inhabited jv:=⟨⟨0,0,false,false,(0,ByteArray.empty),[]⟩⟩
def nH(n:Int)(ss:List jv)(told:List aY):Option Nat:=
 if jM n ss told then none else match fP (λk=>ss.getD k ()) ss.length with
  |none=>none
  |some j=>if ss.any (λs=>s.qW (ss.getD j ()).hd)then none else some j
def dK(n:Int):Nat->List jv->List aY->List aY->List jv×List aY×List aY
 |0,ss,told,out=>(ss,told,out)
 |f+1,ss,told,out=>match nH n ss told with
  |none=>(ss,told,out)
  |some j=>dK n f (ss.set j (ss.getD j ()).pop) (told++ [(ss.getD j ()).hd]) (out++ [(ss.getD j ()).hd])
def cY(ss:List jv):Nat:=(ss.map λs=>s.waits.length).sum
variable{j:Nat}
def JE{a:List jv}{told:List aY}(h:nH n a told=some j):j<a.length/\(a.getD j ()).waits.isEmpty=false:=by
 unfold nH at h;split at h
 .cases h
 .cases ha:fP (λk=>a.getD k ()) a.length with
  |none=>rw[ha]at h;cases h
  |some i=>
   rw[ha]at h;simp only at h;split at h
   .cases h
   .obtain rfl:i=j:=by simpa using h
    exact sM ha
def AA(b:List jv)(j:Nat)(d:j<b.length)(c:(b.getD j ()).waits.isEmpty=false):cY (b.set j (b.getD j ()).pop)+1=cY b:=by
 induction b generalizing j with
 |nil=>simp at d
 |cons a l e=>
  cases j with
  |zero=>
   simp only[List.getD_cons_zero]at c⊢;simp only[cC,cY,gi,List.sum_cons,jv.pop];cases h:a.waits with
   |nil=>rw[h]at c;simp at c
   |cons=>simp;omega
  |succ j=>
   have:=e j (by simpa using d) (by simpa using c);simp only[cY,ct,gi,List.sum_cons,List.getD_cons_succ]at this⊢;omega
def sN{a:List jv}{told out:List aY}(h:nH n a told=none)(f:Nat):dK n f a told out=(a,told,out):=by
 cases f with
 |zero=>rfl
 |succ f=>unfold dK;rw[h]
def TU{a:List jv}{told out:List aY}(h:nH n a told=some j):dK n (cY a) a told out=dK n (cY (a.set j (a.getD j ()).pop)) (a.set j (a.getD j ()).pop) (told++ [(a.getD j ()).hd]) (out++ [(a.getD j ()).hd]):=by
 have⟨b,c⟩:=JE h;rw[<-AA a j b c]
 conv=>lhs;unfold dK
 rw[h]
def MX{a:List jv}{told:List aY}(h:jM n a told=true):nH n a told=none:=by unfold nH;rw[h];rfl
def Qz{a:List jv}{told:List aY}(h:fP (λk=>a.getD k ()) a.length=none):nH n a told=none:=by unfold nH;rw[h];split<;>rfl
def QA{a:List jv}{told:List aY}(h:fP (λk=>a.getD k ()) a.length=some j)(b:a.any (λs=>s.qW (a.getD j ()).hd)=true):nH n a told=none:=by unfold nH;rw[h];simp only[b];split<;>rfl
def MZ{a:List jv}{told:List aY}(hd:jM n a told=false)(h:fP (λk=>a.getD k ()) a.length=some j)(b:a.any (λs=>s.qW (a.getD j ()).hd)=false):nH n a told=some j:=by unfold nH;rw[h,hd];simp only[b];rfl
def dQ.pop(m:dQ)(v:ah):dQ:=⟨m.s.pop,v,m.wb⟩
def Xk(ms:List dQ)(j:Nat)(a:j<ms.length)(v:ah):Cu (ms.set j ((ms.getD j ()).pop v))=(Cu ms).set (j*7+6) v:=
 Qy (f:=dQ.cells) (λ_=>rfl) ms j 6 _ v a rfl (by decide)
def aar(ms:List dQ)(j:Nat)(c:j<ms.length)(m:dQ)(b:m.wb=(ms.getD j ()).wb):(ms.set j m).filterMap dQ.wb=ms.filterMap dQ.wb:=by
 induction ms generalizing j with
 |nil=>simp at c
 |cons a l d=>
  cases j with
  |zero=>simp only[List.getD_cons_zero]at b;simp[List.filterMap_cons,b]
  |succ j=>simp only[ct,List.filterMap_cons];rw[d j (by simpa using c) (by simpa using b)]
def Xl(ms:List dQ)(j:Nat)(a:j<ms.length)(v:ah):(ms.set j ((ms.getD j ()).pop v)).map dQ.s=(ms.map dQ.s).set j ((ms.map dQ.s).getD j ()).pop:=by
 rw[List.map_set];congr 1;simp only[dQ.pop];simp[aU,a]
def TV(ms:List dQ)(j:Nat)(a:j<ms.length):((ms.map dQ.s).getD j ()).hd=(ms.getD j ()).s.hd:=by
 simp[aU,a]
def rN:(prog.info? 83).map (λi=>(i.zero,i.size,i.bytes))=some (some (aG #[an ar 0,aA ByteArray.empty]),2,24):=by kernel_rfl
def QB(l:List aY)(x:aY):dT (l++ [x])=dT l++ [an ar x.1,aA x.2]:=by simp[dT,rK]
def Seg.item{g:Option Nat}{v:ah}{l:List aY}(h:Seg w 83 2 g v (dT l) l.length)(x:aY)(k:l.length<=1000):
 ∃a c w' g',(∀e,(Builtin.append_ #[66,66] e #[v,av (some ⟨w,0,none⟩) 1 1]).run prog (w.alloc (aB #[an ar x.1,aA x.2] 83 (0,0)))=.ok (av a (l.length+1) c) w')/\Seg w' 83 2 g' (av a (l.length+1) c) (dT (l++ [x])) (l++ [x]).length/\aQ g.toList w w'/\(g'=g∨∃b,g'=some b/\w.heap.size<=b):=by
 have⟨m,w',g',f,d,i,j⟩:=h.push 66 underlying66 rN rfl (by decide) [an ar x.1,aA x.2] rfl (by simp[Value.oneCell']) (by omega) (by decide);obtain⟨a,c,rfl,_⟩:=d.len;rw[<-QB]at d;refine⟨a,c,w',g',f,?_,i,j⟩;rw[bF];exact d
def ir.told{p:Nat}{n:Int}{A B:Option Nat}{H I:ah}{ms:List dQ}{told:List aY}(h:ir w p n A B H I ms told)(x:aY)(P:(told.length:Int)<n):
 ∃a c y k,(∀L,(Builtin.append_ #[66,66] L #[I,av (some ⟨w,0,none⟩) 1 1]).run prog (w.alloc (aB #[an ar x.1,aA x.2] 83 (0,0)))=.ok (av a (told.length+1) c) y)/\ir (y.setCell ⟨p,2,none⟩ (av a (told.length+1) c)) p n A k H (av a (told.length+1) c) ms (told++ [x])/\aQ (eh p A B ms) w y/\y.heap[p]? =some (aB #[n,H,I] 224 (0,0))/\(∀z∈eh p A k ms,z∈eh p A B ms∨w.heap.size<=z):=by
 have⟨a,c,y,k,M,N,G,K⟩:=h.t.item x (by have:=h.tl;have:=h.n2;omega);have J:=h.lt;have u:=h.d;have C:=h.e;have Q:=az h.c;have E:p∉B.toList:=λf=>by simp at u;simp at f;exact(u.1.2 f)
 have F:=G.at h.c E;have o:∀z,k=some z->z∈B.toList∨w.heap.size<=z:=λz j=>by
  obtain e|⟨b,e,q⟩:=K
  .left;simp;rw[<-e,j]
  .right;rw[j]at e;simp at e;omega
 refine⟨a,c,y,k,M,⟨by simpa using aE (i:=2) F (av a (told.length+1) c),?_,?_,?_,?_,?_,h.l,h.n1,h.n2,by simp;omega,h.wl⟩,G.mono (by intro z j;simp[eh];simp at j;simp[j]),F,?_⟩
 .refine(h.s.bH G λb q f=> ?_).bH ((aQ.refl [p] y).setCell _ (by simp) _) λb q f=> ?_
  .subst q
   simp at u f;subst f;simp at u
  .subst q
   simp at u f;exact u.1.1 f.symm
 .refine N.bH ((aQ.refl [p] y).setCell _ (by simp) _) λb q f=> ?_
  simp at f;subst f;obtain e|e:=o b q
  .exact E e
  .omega
 .intro m v
  refine(show Seg _ 83 2 m.wb m.wv _ _ from(Seg.bH (show Seg w 83 2 m.wb m.wv _ _ from h.r m v) G λb q f=> ?_).bH ((aQ.refl [p] y).setCell _ (by simp) _) λb q f=> ?_)
  .exact C m v b q (by simp at f⊢;simp[f])
  .exact C m v b q (by simp at f⊢;simp[f])
 .obtain e|⟨b,e,q⟩:=K
  .rw[e];exact u
  .subst e
   simp at u⊢;refine⟨⟨u.1.1,by omega⟩,?_⟩;cases A with
   |none=>simp
   |some g=>
    have:=J g (by simp[eh]);simp;omega
 .intro m v z j f
  simp only[bQ,dJ,eZ]at f;have O:=(show Seg w 83 2 m.wb m.wv _ _ from h.r m v).lt z j;obtain rfl|f|f:=f
  .exact C m v z j (by simp)
  .exact C m v z j (by simp[f])
  .obtain e|e:=o z f
   .exact C m v z j (by simp at e⊢;simp[e])
   .omega
 .intro z j
  simp only[eh,bQ,dJ,eZ]at j⊢;obtain rfl|(j|j)|j:=j
  .simp
  .simp[j]
  .obtain e|e:=o z j
   .simp at e;simp[e]
   .simp[e]
  .simp[j]
def ir.popped{p o F B:Nat}{n:Int}{K:Option Nat}{L:ah}{ms:List dQ}{told:List aY}(h:ir w p n (some o) K (av (some ⟨o,F,none⟩) ms.length B) L ms told)(j:Nat)(A:j<ms.length)(C:(ms.getD j ()).s.waits.isEmpty=false):
 ∃a g rc I,(ms.getD j ()).wv=av (some ⟨a,g,none⟩) (ms.getD j ()).s.waits.length rc/\(if rc=1 then some ⟨a,g,none⟩else some ⟨a,g+2,none⟩)=I/\ir (w.setCell ⟨o,F+(j*7+6),none⟩ (av I ((ms.getD j ()).s.waits.length-1) (rc-1))) p n (some o) K (av (some ⟨o,F,none⟩) ms.length B) L (ms.set j ((ms.getD j ()).pop (av I ((ms.getD j ()).s.waits.length-1) (rc-1)))) told:=by
 have⟨a,g,rc,J,P,_,_⟩:=(h.r _ (bh ms j A)).head C;have i:Seg w 83 2 (ms.getD j ()).wb (ms.getD j ()).wv _ _:=h.r _ (bh ms j A);have G:=h.d;have H:=h.e;refine⟨a,g,rc,_,J,rfl,?_⟩;have f:=aQ.setCell (aQ.refl [o] w) ⟨o,F+(j*7+6),none⟩ (by simp) (av (if rc=1 then some ⟨a,g,none⟩else some ⟨a,g+2,none⟩) ((ms.getD j ()).s.waits.length-1) (rc-1));have E:(ms.getD j ()).wb=some a:=by
  have⟨b,Q,M,u,v,_⟩:=i.cell (by decide) 0 (by
   cases hl:(ms.getD j ()).s.waits with
   |nil=>rw[hl]at C;simp at C
   |cons=>simp)
  rw[J]at v;simp only[bG,bA,dr,bK]at v;rw[u,v.1.1]
 have k:∀m∈ms.set j ((ms.getD j ()).pop (av (if rc=1 then some ⟨a,g,none⟩else some ⟨a,g+2,none⟩) ((ms.getD j ()).s.waits.length-1) (rc-1))),m∈ms∨m=((ms.getD j ()).pop (av (if rc=1 then some ⟨a,g,none⟩else some ⟨a,g+2,none⟩) ((ms.getD j ()).s.waits.length-1) (rc-1))):=λm y=>by
  obtain e|e:=jC y
  .exact .inl e
  .exact .inr e
 have N:=iw h.s (j:=j*7+6) (by omega) (av (if rc=1 then some ⟨a,g,none⟩else some ⟨a,g+2,none⟩) ((ms.getD j ()).s.waits.length-1) (rc-1));rw[<-Xk ms j A]at N;refine⟨?_,by rw[ds];exact N,?_,?_,G,?_,by rw[ds];exact h.l,h.n1,h.n2,h.tl,?_⟩
 .exact f.at h.c (by simp at G⊢;exact G.1.1)
 .refine h.t.bH f λb u q=> ?_
  simp at q;subst q;subst u;simp at G
 .intro m y
  obtain e|rfl:=k m y
  .refine Seg.bH (show Seg w 83 2 m.wb m.wv _ _ from h.r m e) f λb u q=>H m e b u (by simp at q⊢;simp[q])
  .show Seg _ 83 2 (ms.getD j ()).wb _ ((ms.getD j ()).s.waits.tail.flatMap rK) (ms.getD j ()).s.waits.tail.length
   refine Seg.bH (S:=[o]) ?_ f λb u q=>H _ (bh ms j A) b u (by simp at q⊢;simp[q])
   cases hl:(ms.getD j ()).s.waits with
   |nil=>rw[hl]at C;simp at C
   |cons x l=>
    rw[J,hl,E]at i;rw[E];have T:=Seg.tail (sz:=2) (x:=rK x) (n:=l.length) (cs:=l.flatMap rK) i rfl;exact T
 .intro m y z O
  obtain e|rfl:=k m y
  .exact H m e z O
  .exact H _ (bh ms j A) z O
 .intro m y
  obtain e|rfl:=k m y
  .exact h.wl m e
  .have:=h.wl _ (bh ms j A)
   simp only[dQ.pop,jv.pop,List.length_tail];omega
structure oG(w wr:ae)(p:Nat)(n:Int)(gs gt:Option Nat)(sv:ah)(ms:List dQ)(lv:ah)(og gt':Option Nat)(tv':ah)(ms':List dQ)(told' out:List aY):Prop where
 m:ir wr p n gs gt' sv tv' ms' told'
 o:Seg wr 83 2 og lv (dT out) out.length
 c:aQ (eh p gs gt ms) w wr
 q:∀z∈eh p gs gt' ms',z∈eh p gs gt ms∨w.heap.size<=z
 g:∀z,og=some z->w.heap.size<=z/\z∉eh p gs gt' ms'
 l:out.length+cY (ms'.map dQ.s)=cY (ms.map dQ.s)
 b:out.length<=told'.length
def lenOf:ah->Nat
 |av _ n _=>n
 |_=>0
def oG.below{wr y:ae}{p:Nat}{n:Int}{i j:Option Nat}{k r d:ah}{ms ms':List dQ}{s e:Option Nat}{a out:List aY}(h:oG w wr p n i j k ms r s e d ms' a out)(f:aQ ([]:List Nat) wr y):oG w y p n i j k ms r s e d ms' a out:=
 ⟨h.m.bH f,h.o.bH f (by simp),h.c.trans (f.mono (by simp)),h.q,h.g,h.l,h.b⟩
def aas{ms:List dQ}{j:Nat}(h:some j=fP (λk=>(ms.map dQ.s).getD k ()) (ms.map dQ.s).length):j<ms.length/\(ms.getD j ()).s.waits.isEmpty=false:=by
 have⟨a,b⟩:=sM h.symm;rw[cr]at a;refine⟨a,?_⟩;simpa[aU,a]using b
def aQ.over{S T:List Nat}{w' a:ae}(h:aQ S w w')(g:aQ T w' a)(d:∀x∈T,x∈S∨w.heap.size<=x):aQ S w a:=
 ⟨g.os.trans h.os,g.tape.trans h.tape,g.output.trans h.output,bD h.size g.size,λk b c=>(g.block k (bP b h.size) (λe=>by
  obtain e|e:=d k e
  .exact c e
  .omega)).trans (h.block k b c)⟩
def AB(w:ae)(p:Nat)(n:Int)(gs gt:Option Nat)(sv:ah)(ms:List dQ)(Z:List jv×List aY×List aY)(lv:ah)(wr:ae):Prop:=
 ∃og gt' tv' ms' told' out,oG w wr p n gs gt sv ms lv og gt' tv' ms' told' out/\dK n (cY (ms'.map dQ.s)) (ms'.map dQ.s) told' out=Z
def AB.mk{wr:ae}{p:Nat}{n:Int}{d e:Option Nat}{f g b:ah}{ms ms':List dQ}{i c:Option Nat}{a out:List aY}{Z:List jv×List aY×List aY}(h:oG w wr p n d e f ms g i c b ms' a out)(j:dK n (cY (ms'.map dQ.s)) (ms'.map dQ.s) a out=Z):AB w p n d e f ms Z g wr:=⟨_,_,_,_,_,_,h,j⟩
def TW(ms:List dQ)(j:Nat)(a:j<ms.length):(ms.any λm=>m.s.qW (ms.getD j ()).s.hd)=(ms.map dQ.s).any λs=>s.qW ((ms.map dQ.s).getD j ()).hd:=by
 rw[TV ms j a,<-any_map]
def adQ{p:Nat}{n:Int}{gs gt:Option Nat}{sv tv:ah}{ms:List dQ}{told:List aY}(h:ir w p n gs gt sv tv ms told):
 aj prog 113 #[p] w λe w'=>∃v og t K ms' d out,e=ax v/\oG w w' p n gs gt sv ms v og t K ms' d out/\dK n (cY (ms.map dQ.s)) (ms.map dQ.s) told []=(ms'.map dQ.s,d,out):=by
 have⟨Z,hZ⟩:=aD (dK n (cY (ms.map dQ.s)) (ms.map dQ.s) told []);rw[<-hZ];have h0:oG w w p n gs gt sv ms () none gt tv ms told []:=⟨h,Seg.nil _ _ _,aQ.refl _ _,λz i=>.inl i,by simp,by simp,by simp⟩;have⟨H0,HZ⟩:=aK h0 hZ;have⟨W,hW⟩:=aD (cY (ms.map dQ.s));have HW:=au hW;clear h0 hZ h hW;go_in;go_wp2_with fail
 go_loopw [3] (λlv wr=>AB w p n gs gt sv ms Z lv wr) (λlv _=>W-lenOf lv)
 case atStart=>exact AB.mk H0.o HZ.o.symm
 case round=>
  obtain⟨og,t,K,ms',d,out,hT,i⟩:=hrel;have⟨HT,HZ'⟩:=aK hT i;clear i;obtain⟨oa,oc,rfl,_,hom⟩:=hT.o.len;unfold maxLen at hom;have⟨HD,HDN⟩:=aK (JD hT.m) (show jM n (ms'.map dQ.s) d=true->nH n (ms'.map dQ.s) d=none from MX);have⟨db,hdb⟩:=aD (jM n (ms'.map dQ.s) d);have HDB:=au hdb;rw[<-hdb]at HD HDN;clear hT hdb;cases db
  .go_wp2_with fail
   refine aN HD.o ?_;intro y1 L;have M:=HT.o.below (aQ.of_below L);clear L;obtain⟨a,ha⟩:∃a:Nat×Nat,∀k,k<ms'.length->∃N,gs=some a.1/\sv=av (some ⟨a.1,a.2,none⟩) ms'.length N:=by
    by_cases h0:0<ms'.length
    .have⟨b,off,N,hg,hv,_⟩:=M.m.s.aR h0
     exact⟨(b,off),λ_ _=>⟨N,hg,hv⟩⟩
    .exact⟨(0,0),λk hk=>by omega⟩
   have⟨HA,HA2⟩:=aK (aap M.m a ha) ha;have O:fP (λk=>(ms'.getD k ()).s) ms'.length=fP (λk=>(ms'.map dQ.s).getD k ()) (ms'.map dQ.s).length:=by
    rw[cr];congr 1;funext k;by_cases hk:k<ms'.length
    .simp[aU,hk]
    .simp[aU,Nat.le_of_not_lt hk]
     rfl
   have⟨fj,hfj⟩:=aD (fP (λk=>(ms'.getD k ()).s) ms'.length);rw[<-hfj]at HA O;have⟨HF,HT1⟩:=aK O M;clear ha O hfj;cases fj
   .have J:=sN (out:=out) (Qz HF.o.symm) (cY (ms'.map dQ.s)) (n:=n) (told:=d)
    have HS:=au (J.symm.trans HZ'.o);clear J;have hsp:MW a none=aL none:=rfl;rw[hsp]at HA;go_wp2_with fail
    refine aN HA.o ?_;intro y2 P;have HT2:=au (HT1.o.below (aQ.of_below P));clear P;go_wp2_with fail
    have A:=au (HT2.o.below ((aQ.refl _ _).alloc (aB #[aL none] 279 (0,0))));go_ret;exact⟨_,og,t,K,ms',d,out,rfl,A.o,HS.o.symm⟩
   .rename_i j
    have⟨B,C⟩:=aas HF.o;have⟨N,hg,hv⟩:=HA2.o j B;obtain⟨E,ao⟩:=a;simp only at hg hv;subst hg;subst hv;have hsp:MW (E,ao) (some j)=aL (some ⟨E,ao+j*7,none⟩):=rfl;rw[hsp]at HA;clear hsp;go_wp2_with fail
    refine aN HA.o ?_;intro y2 P;have HT2:=HT1.o.below (aQ.of_below P);have⟨u,hu⟩:=aD (y2.alloc (aB #[aL (some ⟨E,ao+j*7,none⟩)] 279 (0,0)));have⟨Q,hgr,hll⟩:=dt hu;have A:=HT2.below (show aQ ([]:List Nat) y2 u by rw[hu];exact(aQ.refl _ _).alloc _);have⟨HTH,adR⟩:=aK A HT2;clear P;have⟨b',off',cap',hb',hv',_,hsh⟩:=A.m.s.aR (by omega);simp only[bG,bA,dr,bK]at hv' hb';subst hb';obtain⟨⟨_,rfl,_⟩,rfl⟩:=hv';have hq:=aF Q 0 rfl;have F:=au (aan y2 (λm=>m.s.qW (ms'.getD j ()).s.hd) A.m.s (by have:=A.m.l;omega) (λy m hm hy=>aao (mm:=ms'.getD j ()) (b:=E) (o:=ao+j*7) ((show Seg u 83 2 (ms'.getD j ()).wb (ms'.getD j ()).wv _ _ from A.m.r _ (bh ms' j B)).bH (aQ.of_below (S:=[]) hy) (by simp)) C ((hsh j B).below hy) ((hy.cell (p:=⟨y2,0,none⟩) hll).trans hq) (bP hll hy.size) (by
     have⟨a,c,e,_⟩:=Seg.len (show Seg u 83 2 m.wb m.wv _ _ from A.m.r _ hm);exact⟨a,c,e⟩)))
    have⟨_,c1,_,hp,_⟩:=A.m.cell;have HU:=au hu;have⟨ny,hny⟩:=aD y2.heap.size;rw[<-hny]at hq F hll;have⟨ay,hay⟩:=aD (ms'.any λm=>m.s.qW (ms'.getD j ()).s.hd);rw[<-hay]at F;have⟨HAY,HNY⟩:=aK hay hny;have adT:∀z,og=some z->z<ny:=λz i=>by
     have:=adR.o.o.lt z i;omega
    have hown:∀z∈eh p (some E) t ms',z<ny:=λz i=>by
     have:=adR.o.m.lt z i;omega
    have⟨HOG,HOW⟩:=aK adT hown;rw[<-hny]at Q;have H1:=au Q;clear hu Q hgr hsh hay hny adT hown;cases ay
    .go_upto_region 6 with fail
     rw[<-HU.o,<-HNY.o];go_wp2_with fail
     refine aN F.o ?_;intro y3 I;have f:=HTH.o.below (aQ.of_below I);have O0:=(ch I).at H1.o (by simp);have J:=TU (out:=out) (MZ HDB.o.symm HF.o.symm (TW ms' j B▸HAY.o.symm));rw[TV ms' j B]at J;have HS:=au (J.symm.trans HZ'.o);clear J c1 hq;have htl:(d.length:Int)<n:=by
      have Q:=HDB.o;have h2:=f.m.tl;unfold jM at Q;simp at Q;omega
     have⟨a1,c1,x1,og1,hr1,ho1,T,hg1⟩:=f.o.item (ms'.getD j ()).s.hd (by have:=f.b;have:=f.m.tl;have:=f.m.n2;omega);have hoo:∀z∈og.toList,z∉eh p (some E) t ms':=λz i=>(f.g z (by simpa using i)).2
     have V:=f.m.kept (Kept.dC T f.m.lt (λz i hx=>hoo z hx i));have hN1:=T.at O0 (λhx=>by have:=HOG.o ny (by simpa using hx);omega);have adU:=V.bH ((aQ.refl _ _).drew);have⟨a2,c2,x2,gt2,hr2,hm2,hc2,X,hq2⟩:=adU.told (ms'.getD j ()).s.hd htl;have hN2:=hc2.at (show x1.drew.heap[ny]? =_ from hN1) (λhx=>by have:=HOW.o ny hx;omega);have⟨rb,ro,rc,AD,hwv,Ty,hm3⟩:=hm2.popped j B C;have⟨b1,o1,q1,Y,e2,_,adV⟩:=f.m.s.aR (by omega);simp only[bG,bA,dr,bK]at Y e2;subst Y;obtain⟨⟨_,rfl,_⟩,rfl⟩:=e2;have⟨b1,o1,q1,Y,e2,_,adW⟩:=V.s.aR (by omega);simp only[bG,bA,dr,bK]at Y e2;subst Y;obtain⟨⟨_,rfl,_⟩,rfl⟩:=e2;have⟨b1,o1,q1,Y,e2,_,adX⟩:=hm2.s.aR (by omega);simp only[bG,bA,dr,bK]at Y e2;subst Y;obtain⟨⟨_,rfl,_⟩,rfl⟩:=e2;have k3:=(adV j B).2 6 _ rfl;have k1:=(adW j B).2 6 _ rfl;have k2:=(adX j B).2 6 _ rfl;have r3:=(show dQ.row y3 _ from f.m.r _ (bh ms' j B)).head C;have r1:=(show dQ.row x1 _ from V.r _ (bh ms' j B)).head C;rw[hwv]at k1 k2 k3 r1 r3;obtain⟨_,_,_,e3,l3,r30,r31⟩:=r3;simp only[bG,bA,dr,bK]at e3;obtain⟨⟨rfl,rfl,_⟩,rfl⟩:=e3;obtain⟨_,_,_,e3,l1,Xm,TX⟩:=r1;simp only[bG,bA,dr,bK]at e3;obtain⟨⟨rfl,rfl,_⟩,rfl⟩:=e3;have aat:=aar ms' j B ((ms'.getD j ()).pop (av AD ((ms'.getD j ()).s.waits.length-1) (rc-1))) rfl;have hwm:=AA (ms'.map dQ.s) j (by simpa using B) (by simpa[aU,B]using C);rw[<-Xl ms' j B (av AD ((ms'.getD j ()).s.waits.length-1) (rc-1))]at hwm HS;rw[<-Nat.add_assoc]at hm3;have Zh:aQ (eh p (some E) t ms') x2 (x2.setCell ⟨p,2,none⟩ (av a2 (d.length+1) c2)):=(aQ.refl _ _).setCell _ (by simp[eh]) _;have Zi:aQ (eh p (some E) t ms') (x2.setCell ⟨p,2,none⟩ (av a2 (d.length+1) c2)) ((x2.setCell ⟨p,2,none⟩ (av a2 (d.length+1) c2)).setCell ⟨E,ao+j*7+6,none⟩ (av AD ((ms'.getD j ()).s.waits.length-1) (rc-1))).drew:=((aQ.refl _ _).setCell _ (by simp[eh]) _).drew;have aau:=(((aQ.refl (eh p (some E) t ms') x1).drew.trans hc2).trans Zh).trans Zi;have G:∀z,og1=some z->w.heap.size<=z/\z∉eh p (some E) t ms':=λz i=>by
      obtain e|⟨b,e,hb⟩:=hg1
      .exact f.g z (by rw[<-e,i])
      .rw[i]at e
       simp only[bA]at e;subst e;have Q:=f.c.size;have h2:=f.m.lt z;exact⟨by omega,λhx=>by have:=h2 hx;omega⟩
     have hfin:oG w ((x2.setCell ⟨p,2,none⟩ (av a2 (d.length+1) c2)).setCell ⟨E,ao+j*7+6,none⟩ (av AD ((ms'.getD j ()).s.waits.length-1) (rc-1))).drew p n (some E) gt (av (some ⟨E,ao,none⟩) ms'.length N) ms (av a1 (out.length+1) c1) og1 gt2 (av a2 (d.length+1) c2) (ms'.set j ((ms'.getD j ()).pop (av AD ((ms'.getD j ()).s.waits.length-1) (rc-1)))) (d++ [(ms'.getD j ()).s.hd]) (out++ [(ms'.getD j ()).s.hd]):=by
      refine⟨hm3.bH ((aQ.refl _ _).drew),ho1.bH aau (λz i=>(G z i).2),?_,?_,?_,?_,?_⟩
      .refine(f.c.over T λz i=>.inr ?_).over aau f.q
       exact(f.g z (by simpa using i)).1
      .intro z i
       rw[eh,aat]at i;obtain e|e:=hq2 z i
       .exact f.q z e
       .right
        have Q:=f.c.size;have h2:=T.size;have h3:x1.drew.heap.size=x1.heap.size:=rfl;omega
      .intro z i
       refine⟨(G z i).1,λhx=> ?_⟩;rw[eh,aat]at hx;obtain e|e:=hq2 z hx
       .exact(G z i).2 e
       .have:=ho1.lt z i
        have h3:x1.drew.heap.size=x1.heap.size:=rfl;omega
      .have:=f.l
       rw[bF];simp only[List.length_singleton];omega
      .have:=f.b
       simp only[bF,List.length_singleton];omega
     have⟨H,aia,HR1,HR2⟩:=c_ hfin (show out.length<W by have Q:=hfin.l;have h2:=HW.o;simp only[bF,List.length_singleton]at Q;omega) hr1 hr2;have⟨_,kc1,_,kp,_⟩:=f.m.cell;have⟨_,_,kt1,kp1,kf1⟩:=V.cell;have kx2:=aF X 2 rfl;have kf2:=bB X 2;have⟨bq,oq,cq,Y,e2,lab,hfr⟩:=hm2.s.cell (by decide) j B;simp only[bG,bA,dr,bK]at Y e2;subst Y;obtain⟨⟨_,rfl,_⟩,rfl⟩:=e2;have f2:=(hfr 6 _ (by decide) (by rw[tV ms' j 6 B (by decide)];rfl)).2;have n3:=aF O0 0 rfl;have n1:=aF hN1 0 rfl;have hpn:p≠ny:=λe=>by have:=HOW.o p (by simp[eh]);omega
     have n2:(x2.setCell ⟨p,2,none⟩ (av a2 (d.length+1) c2)).cell? ny=some (aL (some ⟨E,ao+j*7,none⟩)):=by
      have:(x2.setCell ⟨p,2,none⟩ (av a2 (d.length+1) c2)).heap[ny]? =x2.heap[ny]? :=Below.heap_setCell _ _ _ _ (Ne.symm hpn);simp[World.cell?,this,hN2]
     have⟨U,hU⟩:=aD (x2.setCell ⟨p,2,none⟩ (av a2 (d.length+1) c2));rw[<-hU]at k2 f2 n2 lab H;obtain⟨m,hm⟩:∃m,(ms'.getD j ()).s.waits.length=m+1:=by
      cases hl:(ms'.getD j ()).s.waits with
      |nil=>rw[hl]at C;simp at C
      |cons x l=>exact⟨l.length,by simp⟩
     rw[hm]at k1 k2 k3 H HS;simp only[Nat.add_sub_cancel]at H HS;have⟨hd,hhd⟩:=aD ((ms'.getD j ()).s.hd);rw[<-hhd]at r30 r31 Xm TX HR1 HR2;have HHD:=au hhd;obtain⟨d0,d1⟩:=hd;simp only at r30 r31 Xm TX HR1 HR2;have HU:=au hU;have q1:(0:Int)<(m:Int)+1:=by omega
     clear hfin hr1 hr2 V adU hm2 hm3 T hc2 hq2 X Zh Zi aau G aat hwm adW adX adV hfr hN1 hN2 O0 I hhd hU C hm hwv ho1 hg1 hoo hpn;go_wp2_with (refine cE (by rfl) (.tmp 22) (.tmp 29) 66 (by rfl) _ _ _ x1 (by rfl) (by rfl) (HR1.o _) ?_);clear n3 k3 kc1 kp l3 r30 r31;go_region_law (first
      |(refine kM (by rfl) (.tmp 35) (.tmp 42) 66 (by rfl) _ _ _ x2 (by rfl) (by rfl) (HR2.o _) ?_)
      |fail)
     all_goals
      rw[<-HU.o];clear n1 k1 l1 Xm TX kt1 kp1 kx2 kf2;go_wp2_with fail
      go_region
      go_wp2;go_roundw
      case rel=>exact AB.mk H.o HS.o
      case measure=>simp[lenOf];have:=aia.o;omega
    .go_upto_region 6 with fail
     rw[<-HU.o,<-HNY.o];go_wp2_with fail
     refine aN F.o ?_;intro y3 I;have f:=au (HTH.o.below (aQ.of_below I));clear I;have J:=sN (out:=out) (QA HF.o.symm (TW ms' j B▸HAY.o.symm)) (cY (ms'.map dQ.s)) (n:=n) (told:=d);have HS:=au (J.symm.trans HZ'.o);clear J;go_wp2;go_ret;exact⟨_,og,t,K,ms',d,out,rfl,f.o,HS.o.symm⟩
  .have J:=sN (out:=out) (HDN.o rfl) (cY (ms'.map dQ.s))
   have HS:=au (J.symm.trans HZ'.o);clear J;go_wp2_with fail
   refine aN HD.o ?_;intro y1 L;have M:=au (HT.o.below (aQ.of_below L));clear L;go_wp2;go_ret;exact⟨_,og,t,K,ms',d,out,rfl,M.o,HS.o.symm⟩
def JF(gs:Option Nat)(sv:ah)(len:Nat)(a:Nat×Nat):Prop:=∀k,k<len->∃cap,gs=some a.1/\sv=av (some ⟨a.1,a.2,none⟩) len cap
def ir.shs{p:Nat}{n:Int}{e g:Option Nat}{f i:ah}{ms:List dQ}{told:List aY}(h:ir w p n e g f i ms told):∃a,JF e f ms.length a:=by
 by_cases j:0<ms.length
 .have⟨b,c,d,l,m,_⟩:=h.s.aR j
  exact⟨(b,c),λ_ _=>⟨d,l,m⟩⟩
 .exact⟨(0,0),λk o=>by omega⟩
def O1(len:Nat)(i:Int):Option Nat:=if 0<=i/\i<len then some i.toNat else none
def TY{a:Nat}{i:Int}(h:¬(0<=i/\i<a)):O1 a i=none:=aC h
def Xn{a k:Nat}(h:k<a):O1 a k=some k:=by
 unfold O1;rw[aI ⟨by omega,by omega⟩];simp
def O2{p:Nat}{n:Int}{c j:Option Nat}{d l:ah}{ms:List dQ}{told:List aY}(h:ir w p n c j d l ms told)(i:Int){a:Nat×Nat}(b:JF c d ms.length a):
 aj prog 267 #[p,(i:Int)] w λe w'=>e=ax (MW a (O1 ms.length i))/\w=w':=by
 obtain⟨q,m,rfl,_,o⟩:=h.s.len;unfold maxLen at o;have⟨_,r,_,_,_⟩:=h.cell;clear h;by_cases t:i<0
 .rw[TY (by omega)]
  clear b;go_in;go_wp2;go_ret;exact⟨rfl,rfl⟩
 .by_cases u:(ms.length:Int)<=i
  .rw[TY (by omega)]
   clear b;go_in;go_wp2;go_ret;exact⟨rfl,rfl⟩
  .obtain⟨k,rfl⟩:∃k:Nat,i=k:=⟨i.toNat,by omega⟩
   rw[Xn (by omega)];have⟨f,_,g⟩:=b k (by omega);simp only[bG,bK]at g;obtain⟨rfl,rfl⟩:=g;clear b;have v:(0:Int)<=(k:Int):=by omega
   have x:(k:Int)<(ms.length:Int):=by omega
   go_in;go_wp2;go_ret;exact⟨rfl,rfl⟩
def TZ(ss:List jv)(i:Int):Int:=match O1 ss.length i with
 |some k=>(ss.getD k ()).seq
 |none=>0
def jl(ss:List jv)(i:Int):aY×Bool:=match O1 ss.length i with
 |some k=>((ss.getD k ()).last,(ss.getD k ()).heard)
 |none=>((0,ByteArray.empty),false)
def u_(ms:List dQ)(k:Nat)(a:k<ms.length):(ms.map dQ.s).getD k ()=(ms.getD k ()).s:=by
 simp[aU,a]
def vh{a k:Nat}{i:Int}(h:O1 a i=some k):k<a:=by
 unfold O1 at h;split at h
 .simp at h;omega
 .cases h
def adY{p:Nat}{n:Int}{v x:Option Nat}{y z:ah}{ms:List dQ}{told:List aY}(h:ir w p n v x y z ms told)(i:Int):
 aj prog 269 #[p,(i:Int)] w λe w'=>e=ax (TZ (ms.map dQ.s) i:Int)/\w=w':=by
 have⟨a,l⟩:=h.shs;have f:=au (O2 h i l);unfold TZ;rw[cr];cases hat:O1 ms.length i with
 |none=>
  rw[hat]at f;have e:MW a none=aL none:=rfl;rw[e]at f;clear h l hat e;go_in;go_wp2_with fail
  refine aH f.o ?_;go_wp2;go_ret;exact⟨rfl,rfl⟩
 |some k=>
  have m:=vh hat;rw[hat]at f;have⟨b,g,A,q,r,_,j⟩:=h.s.aR (by omega);have⟨t,c,d⟩:=l k m;rw[q]at c;rw[r]at d;simp only[bG,bA,dr,bK]at c d;obtain⟨B,C⟩:=a;simp only at c d;subst c;obtain⟨⟨_,rfl,_⟩,rfl⟩:=d;have e:MW (b,g) (some k)=aL (some ⟨b,g+k*7,none⟩):=rfl;rw[e]at f;have E:=(j k m).2 1 _ rfl;have u:=u_ ms k m;simp only;rw[u];clear h l hat e j q r u;generalize(ms.getD k ()).s.seq=sq at*;go_in;go_wp2_with fail
  refine aH f.o ?_;go_wp2;go_ret;exact⟨rfl,rfl⟩
def vi{w:ae}{g:Nat}{a:Int}{b:ByteArray}(h:w.heap[g]? =some (aB #[a,aA b] 83 (0,0))):(loadVar 83 ⟨g,0,none⟩).run prog w=.ok (aG #[a,aA b]) w:=
 run_loadVar_row w g 83 83 _ (0,0) _ h underlying83 rfl (by kernel_rfl)
def Xo{w:ae}{p:Nat}{n:Int}{N O:Option Nat}{P Q:ah}{ms:List dQ}{told:List aY}(h:ir w p n N O P Q ms told)(i:Int):
 aj prog 268 #[p,(i:Int)] w λe w'=>e=ax (aM #[aG #[an ar (jl (ms.map dQ.s) i).1.1,aA (jl (ms.map dQ.s) i).1.2],aw (jl (ms.map dQ.s) i).2])/\ai w w w':=by
 have⟨u,v⟩:=aD (w.alloc (aB #[an ar 0,aA ⟨#[]⟩] 83 (0,0)));have⟨c,g,T⟩:=dt v;have x:=h.bH (show aQ ([]:List Nat) w u by rw[v];exact(aQ.refl _ _).alloc _);have r:=h.lt;clear h;have⟨a,A⟩:=x.shs;have t:=au (O2 x i A);unfold jl;rw[cr];have J:=au v;cases hat:O1 ms.length i with
 |none=>
  rw[hat]at t;have e:MW a none=aL none:=rfl;rw[e]at t;have j:=c;have d:((u.setCell ⟨w,0,none⟩ (0:Int)).setCell ⟨w,1,none⟩ (aA ⟨#[]⟩)).heap[w.heap.size]? =some (aB #[an ar 0,aA ⟨#[]⟩] 83 (0,0)):=by
   have E:=aE (i:=0) j (0:Int);have F:=aE (i:=1) E (aA ⟨#[]⟩);simpa using F
  have f:ai w w ((u.setCell ⟨w,0,none⟩ (0:Int)).setCell ⟨w,1,none⟩ (aA ⟨#[]⟩)):=by
   refine((g.mono (S':=[w.heap.size]) (by simp)).setCell _ (by simp) _|>.setCell _ (by simp) _).below (by simp) (aP _)
  have⟨G,H⟩:=aK d f;have⟨U,V⟩:=dk c;have W:=bB c 0;have X:=bB c 1;clear x A hat e c g v j d f r;go_in;go_upto_region 1 with fail
  rw[<-J.o];go_wp2_with fail
  refine aH t.o ?_;go_wp2;refine fS (kN rfl rfl (vi G.o)) rfl ?_;exact⟨rfl,H.o⟩
 |some k=>
  have y:=vh hat;rw[hat]at t;have⟨b,z,Y,I,K,Z,l⟩:=x.s.aR (by omega);have⟨L,m,q⟩:=A k y;rw[I]at m;rw[K]at q;simp only[bG,bA,dr,bK]at m q;obtain⟨a1,a2⟩:=a;simp only at m q;subst m;obtain⟨⟨_,rfl,_⟩,rfl⟩:=q;have e:MW (b,z) (some k)=aL (some ⟨b,z+k*7,none⟩):=rfl;rw[e]at t;have c3:=(l k y).2 3 _ rfl;have c4:=(l k y).2 4 _ rfl;have c5:=(l k y).2 5 _ rfl;have M:=u_ ms k y;simp only;rw[M];have hbw:=r b (by simp[eh,I]);have j:u.drew.heap[w.heap.size]? =some (aB #[an ar 0,aA ⟨#[]⟩] 83 (0,0)):=c;generalize(ms.getD k ()).s.heard=hd at*;generalize(ms.getD k ()).s.last=la at*;obtain⟨B,C⟩:=la;simp only at c4 c5;have⟨U,V⟩:=dk c;have W:=bB c 0;have X:=bB c 1;have d:((u.setCell ⟨w,0,none⟩ B).setCell ⟨w,1,none⟩ (aA C)).drew.heap[w.heap.size]? =some (aB #[B,aA C] 83 (0,0)):=by
   have E:=aE (i:=0) c B;have F:=aE (i:=1) E (aA C);exact F
  have f:ai w w ((u.setCell ⟨w,0,none⟩ B).setCell ⟨w,1,none⟩ (aA C)).drew:=by
   refine(((g.mono (S':=[w.heap.size]) (by simp)).setCell _ (by simp) _|>.setCell _ (by simp) _).drew).below (by simp) (aP _)
  have⟨G,H⟩:=aK d f;clear x A hat e l I K M c g v j d f r;go_in;go_upto_region 1 with fail
  rw[<-J.o];go_wp2_with fail
  refine aH t.o ?_;go_wp2_with fail
  go_region
  go_wp2_with fail
  refine fS (kN rfl rfl (vi G.o)) rfl ?_;exact⟨rfl,H.o⟩
def kR(ss:List jv)(k:Nat):List Int:=((List.range k).filter λj=>(ss.getD j ()).wanted).map λj:Nat=>(j:Int)
def ki(n:Int)(ss:List jv)(told:List aY):List Int:=if jM n ss told then []else kR ss ss.length
def JG{a:List jv}{k:Nat}(h:(a.getD k ()).wanted=true):kR a (k+1)=kR a k++ [(k:Int)]:=by
 unfold kR;rw[List.range_succ,List.filter_append,List.filter_cons];simp only[h];simp
def M0{a:List jv}{k:Nat}(h:(a.getD k ()).wanted=false):kR a (k+1)=kR a k:=by
 unfold kR;rw[List.range_succ,List.filter_append,List.filter_cons];simp only[h];simp
def wX(a:List jv)(k:Nat):(kR a k).length<=k:=by
 unfold kR;rw[cr];exact bD (List.length_filter_le _ _) (by simp)
def Xp{w:ae}{p:Nat}{n:Int}{Z gt:Option Nat}{sv tv:ah}{ms:List dQ}{told:List aY}(h:ir w p n Z gt sv tv ms told):
 aj prog 249 #[p] w λe w'=>∃v,e=ax v/\fU w w' v (ki n (ms.map dQ.s) told)/\ai w w w':=by
 have K:=au (JD h);unfold ki;rw[cr];have⟨F,hF⟩:=aD (kR (ms.map dQ.s));rw[<-hF];have⟨L,M,N,O,HS⟩:=iI (show F 0=[]by rw[hF];rfl) (show∀k,k<ms.length->(ms.getD k ()).s.wanted=true->F (k+1)=F k++ [(k:Int)]fromλk z h=>by rw[hF];exact JG (by rw[u_ ms k z];exact h)) (show∀k,k<ms.length->(ms.getD k ()).s.wanted=false->F (k+1)=F k fromλk z h=>by rw[hF];exact M0 (by rw[u_ ms k z];exact h)) (show∀k,(F k).length<=k fromλk=>by rw[hF];exact wX _ k) (show 0<ms.length->∃b m B,Z=some b/\sv=av (some ⟨b,m,none⟩) ms.length B/\b<w.heap.size/\∀k,k<ms.length->ShAt w b (m+k*7) (ms.getD k ())from h.s.aR);have HR:=au (show∀k,k<ms.length->∃a c,(ms.getD k ()).wv=av a (ms.getD k ()).s.waits.length c fromλk z=>by
  have⟨a,c,e,_⟩:=Seg.len (show Seg w 83 2 (ms.getD k ()).wb (ms.getD k ()).wv _ _ from h.r _ (bh ms k z));exact⟨a,c,e⟩)
 have hln:=h.l;have⟨c0,P,c2,hp,_⟩:=h.cell;have⟨sa,B,Q,hcap,hm⟩:=h.s.len;unfold maxLen at hm;subst Q;have⟨db,C⟩:=aD (jM n (ms.map dQ.s) told);rw[<-C]at K⊢;clear h hF c0 c2 C;cases db
 .rw[aC (by decide)]
  go_in;go_wp2_with fail
  refine aN K.o ?_;intro y q;have d1:=(q.cell (p:=⟨p,1,none⟩) hp).trans P;have T:=bP hp q.size;have t:=au q;clear P q;go_wp2_with fail
  go_loopw [3,16] (λv i wr=>∃k:Nat,i=an ar k/\k<=ms.length/\fU y wr v (F k)/\ai y y wr) (λ_ i _=>ms.length-(intOf i).toNat)
  case atStart=>exact⟨0,rfl,bz _,by rw[L.o];exact Own.nil _ _ _ _,aO _ _⟩
  case round=>
   obtain⟨k,rfl,z,E,A⟩:=hrel;obtain⟨a,cp,rfl,hn1,U⟩:=E.len;have hfl:=O.o k;unfold maxLen at U;by_cases d:k<ms.length
   .have⟨b,m,cp',_,he,hl,hc⟩:=HS.o (by omega)
    simp only[bG,bK]at he;obtain⟨rfl,rfl⟩:=he;have e1:=(A.cell (p:=⟨p,1,none⟩) T).trans d1;have V:=au (zE ((hc k d).below (t.o.trans (A.mono t.o.size))) (HR.o k d));have q1:(0:Int)<=(k:Int):=by omega
    have q2:(k:Int)<(ms.length:Int):=by omega
    have⟨f,g⟩:=aK (M.o k d) (N.o k d);have⟨bb,G⟩:=aD ((ms.getD k ()).s.wanted);rw[<-G]at V f g;have⟨W,J⟩:=aK A E;clear hc G E A;cases bb
    .have HE:=au (g.o rfl)
     go_wp2_with fail
     refine aH V.o ?_;go_wp2;go_roundw
     case rel=>exact⟨k+1,rfl,by omega,by rw[HE.o];exact J.o,W.o⟩
     case measure=>simp[intOf];omega
    .have⟨a',c',x,j,u,H⟩:=J.o.push (k:Int) (by omega) W.o.size
     rw[<-f.o rfl]at u;have⟨I,X,Y⟩:=aX j u (W.o.trans H);clear u H j;generalize(F k).length=fl at*;go_wp2_with fail
     refine aH V.o ?_;go_wp2_with (refine cE (by rfl) (.tmp 26) (.tmp 28) 43 (by rfl) _ _ _ x (by rfl) (by rfl) (I.o _) ?_);go_roundw
     case rel=>exact⟨k+1,rfl,by omega,X.o,Y.o⟩
     case measure=>simp[intOf];omega
   .have hz:k=ms.length:=by omega
    have⟨HX,J⟩:=aK (t.o.trans (A.mono t.o.size)) (show fU w wr _ _ from E.mono t.o.size);subst hz;clear A E;generalize(F ms.length).length=fl at*;go_wp2;go_ret;exact⟨_,rfl,J.o,HX.o⟩
 .rw[aI rfl]
  clear P;go_in;go_wp2_with fail
  refine aN K.o ?_;intro y q;have t:=au q;clear q;go_wp2;go_ret;exact⟨_,rfl,Own.nil _ _ _ _,t.o⟩
def Seg.tW{w:ae}{e sz n f:Nat}{g:Option Nat}{a:Addr}{cs:List ah}(h:Seg w e sz g (av (some a) n f) cs n)(t:TypeId){z:ah}{bytes:Nat}(I:prog.underlying t=some (.slice e))
 (k:(prog.info? e).map (λi=>(i.zero,i.size,i.bytes))=some (some z,sz,bytes)) (r:z.cells.size=sz) (s:0<sz) (J:∀u∈cs,u.oneCell'=true) (hn:n<=1000000) (v:bytes<=1000000):
 ∃m o w',(∀K,(Builtin.append_ #[t,t] K #[av (some ⟨w,0,none⟩) 0 0,av (some a) n f]).run prog (w.alloc (aB #[] e (0,0)))=.ok (av m n o) w')/\Own w e sz w' (av m n o) cs n/\ai w w w':=by
 have⟨L,M,y,A,B⟩:=info_parts k;have p:aQ ([]:List Nat) w (w.alloc (aB #[] e (0,0))):=(aQ.refl _ _).alloc _;have N:(0+n)*bytes<=140737488355328:=bD (Nat.mul_le_mul (show 0+n<=1000000 by omega) v) (by decide);have c:=World.ownsRow_lit (base:=w.heap.size) (size:=sz) (e:=e) w #[] 0 (aP _) (by decide) (by simp);have d:∀j u,cs[j]? =some u->(w.alloc (aB #[] e (0,0))).cell? (a.add j)=some u:=λj u F=>by
  obtain⟨O,⟨_,q,_⟩|⟨b,l,G,Q,rfl,q,T,h2,h3,h4,U⟩⟩:=h
  .simp at q
  .simp only[bG,bA,bK]at q
   obtain⟨rfl,rfl⟩:=q;have V:j<n*sz:=by rw[<-O];exact(List.getElem?_eq_some_iff.1 F).1
   have C:=p.at T (by simp);have W:((⟨b,l,none⟩:Addr).add j)=⟨b,l+j,none⟩:=by
    unfold Addr.add;split
    .rename_i X;subst X;rfl
    .rfl
   rw[W];simp only[World.cell?,C];rw[U j V,F];rfl
 have⟨Y,H,Z,E,hg,_⟩:=run_append_own (P:=prog) (w:=w.alloc (aB #[] e (0,0))) w t 0 e L z sz bytes I M y A B r s _ 0 [] c a n f cs h.1 d J (by unfold maxLen;omega) N p.size;rw[eJ,List.nil_append]at E;obtain⟨m,o,rfl,_⟩:=Own.len (show Own w e sz H Y cs n from E);refine⟨m,o,H,λ_=>Z,E,p.aJ.trans (Below.grow hg (λx hx=> ?_) p.size)⟩;exact(World.ownsRow.lt c x hx).1
def T0(l:List aY):∀u∈dT l,u.oneCell'=true:=by
 intro u a;simp only[dT,List.mem_flatMap,rK,bQ,ez,or_false]at a;obtain⟨x,_,rfl|rfl⟩:=a<;>rfl
def O3{w:ae}{g:Option Nat}{v:ah}{l:List aY}(h:Seg w 83 2 g v (dT l) l.length)(q:l.length<=1000000):
 aj prog 76 #[v] w λe w'=>∃a c,e=ax (av a l.length c)/\Own w 83 2 w' (av a l.length c) (dT l) l.length/\ai w w w':=by
 obtain⟨a,f,rfl,_,r⟩:=h.len;unfold maxLen at r;have k:=λW=>lF (P:=prog) W 66 83 a l.length f 0 0 underlying66
 cases a with
 |none=>
  have s:l.length=0/\f=0:=by
   obtain⟨_,⟨_,i,_⟩|⟨b,t,m,u,_,i,_⟩⟩:=h
   .simp only[bG,bK]at i
    exact⟨i.1,i.2⟩
   .simp at i
  obtain⟨x,rfl⟩:=s;have:l=[]:=List.length_eq_zero_iff.1 x;subst this;clear h k;have k:=λW=>lF (P:=prog) W 66 83 none 0 0 0 0 underlying66
  simp only[dx];go_in;go_wp2;go_ret;exact⟨_,_,rfl,World.ownsRow_nil _ _ _ _,aO _ _⟩
 |some a=>
  have⟨A,B,w',d,n,p⟩:=h.tW 66 underlying66 rN rfl (by decide) (T0 l) q (by decide);have⟨j,y,z⟩:=aX d n p;clear h d n p;go_in;go_wp2_with (refine cE (by rfl) (.tmp 5) (.tmp 6) 66 (by rfl) _ _ _ w' (by rfl) (by rfl) (j.o _) ?_);go_ret;exact⟨_,_,rfl,y.o,z.o⟩
section
open Go.Shelf
def Tryz.wY:Go.Shelf.Ren:=⟨λ|156=>185|165=>191|166=>192|169=>193|240=>195|241=>196|276=>197|277=>198|n=>n,λ|31=>22|9=>9|3=>3|4=>4|0=>0|20=>20|72=>345|76=>348|70=>343|37=>188|75=>347|127=>350|164=>351|5=>5|80=>297|n=>n,λ|n=>n⟩
def Tryz.O4:Go.Proofs.Lays.n156 prog Tryz.wY:={
 mixed:=by kernel_rfl
 f156:=func185.trans (congrArg some (by kernel_rfl))
 f165:=func191.trans (congrArg some (by kernel_rfl))
 f166:=func192.trans (congrArg some (by kernel_rfl))
 f169:=func193.trans (congrArg some (by kernel_rfl))
 f240:=func195.trans (congrArg some (by kernel_rfl))
 f241:=func196.trans (congrArg some (by kernel_rfl))
 f276:=func197.trans (congrArg some (by kernel_rfl))
 f277:=func198.trans (congrArg some (by kernel_rfl))
 t0:=underlying0
 a0:=Tryz.isAgg0
 z0:=Tryz.sizeOf0
 v0:=Tryz.zeroValue0
 t3:=underlying3
 a3:=Tryz.isAgg3
 z3:=Tryz.sizeOf3
 v3:=Tryz.zeroValue3
 t4:=underlying4
 a4:=Tryz.isAgg4
 z4:=Tryz.sizeOf4
 v4:=Tryz.zeroValue4
 t9:=underlying9
 a9:=Tryz.isAgg9
 z9:=Tryz.sizeOf9
 v9:=Tryz.zeroValue9
 t20:=underlying20
 a20:=Tryz.isAgg20
 z20:=Tryz.sizeOf20
 v20:=Tryz.zeroValue20
 t31:=underlying22
 a31:=Tryz.isAgg22
 z31:=Tryz.sizeOf22
 v31:=Tryz.zeroValue22
 t37:=underlying188
 a37:=Tryz.isAgg188
 z37:=Tryz.sizeOf188
 v37:=Tryz.zeroValue188
 t70:=underlying343
 a70:=Tryz.isAgg343
 z70:=Tryz.sizeOf343
 v70:=Tryz.zeroValue343
 t72:=underlying345
 a72:=Tryz.isAgg345
 z72:=Tryz.sizeOf345
 v72:=Tryz.zeroValue345
 t75:=underlying347
 a75:=Tryz.isAgg347
 z75:=Tryz.sizeOf347
 v75:=Tryz.zeroValue347
 t76:=underlying348
 a76:=Tryz.isAgg348
 z76:=Tryz.sizeOf348
 v76:=Tryz.zeroValue348
 t127:=underlying350
 a127:=Tryz.isAgg350
 z127:=Tryz.sizeOf350
 v127:=Tryz.zeroValue350
 t164:=underlying351
 a164:=Tryz.isAgg351
 z164:=Tryz.sizeOf351
 v164:=Tryz.zeroValue351}
def Tryz.ov:Builder.Extra prog Tryz.wY:={
 sizeBuilder:=by kernel_rfl
 liesBuilder:=by kernel_rfl
 t5:=underlying5
 a5:=Tryz.isAgg5
 z5:=Tryz.sizeOf5
 v5:=Tryz.zeroValue5
 infoByte:=by kernel_rfl
 cellsByte:=by kernel_rfl
 sizeByte:=by kernel_rfl
 neB5:=by decide}
open Go.RowKit in
theorem Tryz.strings_Join_none (a:Option Addr) (c:Nat) (b:ByteArray) (w:ae):
 aj prog 185 #[av a 0 c,aA b] w λe w'=>e=ax (aA ⟨#[]⟩)/\w'=w:=Any.strings_Join_none Tryz.O4 Tryz.ov a c b w
open Go.RowKit in
theorem Tryz.strings_Join (g o c:Nat) (xs:List ByteArray) (a:ByteArray) (w:ae) (b:∀(j:Nat) x,xs[j]? =some x->w.cell? ⟨g,o+j,none⟩=some (aA x)) (h:g<w) (i:xs.length<=140737488355328) (d:xs.length<=c) (f:(Lib.join (xs.map (·.data.toList)) a.data.toList).length<=140737488355328):
 aj prog 185 #[av (some ⟨g,o,none⟩) xs.length c,aA a] w λe w'=>e=ax (aA ⟨(Lib.join (xs.map (·.data.toList)) a.data.toList).toArray⟩)/\ai w w w':=Any.strings_Join Tryz.O4 Tryz.ov g o c xs a w b h i d f
def Tryz.M1:Go.Shelf.Ren:=⟨λ|99=>187|206=>194|n=>n,λ|9=>9|4=>4|3=>3|n=>n,λ|n=>n⟩
def Tryz.aav:Go.Proofs.Lays.n99 prog Tryz.M1:={
 mixed:=by kernel_rfl
 f99:=func187.trans (congrArg some (by kernel_rfl))
 f206:=func194.trans (congrArg some (by kernel_rfl))
 t3:=underlying3
 a3:=Tryz.isAgg3
 z3:=Tryz.sizeOf3
 v3:=Tryz.zeroValue3
 t4:=underlying4
 a4:=Tryz.isAgg4
 z4:=Tryz.sizeOf4
 v4:=Tryz.zeroValue4
 t9:=underlying9
 a9:=Tryz.isAgg9
 z9:=Tryz.sizeOf9
 v9:=Tryz.zeroValue9}
open Go.RowKit Go.Lib in
theorem Tryz.strings_HasPrefix (s p:ByteArray) (w:ae):
 aj prog 187 #[aA s,aA p] w λe w'=>e=ax (aw (Lib.hasPrefix s.data.toList p.data.toList))/\w'=w:=Any.strings_HasPrefix Tryz.aav s p w
def adZ(v:ah)(ws:List ByteArray)(w:ae)(h:aT oR 1 w v ws)(d:ByteArray)(s:ws.length<=1000)(f:(Lib.join (ws.map (·.data.toList)) d.data.toList).length<=140737488355328):
 aj prog 185 #[v,aA d] w λe w'=>e=ax (aA ⟨(Lib.join (ws.map (·.data.toList)) d.data.toList).toArray⟩)/\ai w w w':=by
 obtain⟨a,c,rfl,_,o,k⟩:=h;cases ws with
 |nil=>exact(Tryz.strings_Join_none a c d w).mono λe w' ⟨p,q⟩=>⟨by rw[p];rfl,q▸aO _ _⟩
 |cons x l=>
  obtain⟨b,g,rfl,r,_⟩:=k 0 (by simp);refine Tryz.strings_Join b g c (x::l) d w (λj y m=> ?_) r (by omega) o f;have⟨t,n,e,_,i⟩:=k j (List.getElem?_eq_some_iff.1 m).1;simp only[bA,dr,et]at e;obtain⟨rfl,rfl⟩:=e;have:=i 0 (aA y) (by rw[aU,m];rfl);simpa using this
def Xq(s p:ByteArray)(w:ae):aj prog 187 #[aA s,aA p] w λe w'=>e=ax (aw (Lib.hasPrefix s.data.toList p.data.toList))/\w=w':=
 (Tryz.strings_HasPrefix s p w).mono λ_ _ ⟨a,b⟩=>⟨a,b.symm⟩
end
open mX
def fV(l:List UInt8):Nat×Nat:=if l.isEmpty then(0,0)else((dec l).1,min (dec l).2 l.length)
def aaw(s:ByteArray)(w:ae)(u:s.size<=maxLen):
 aj prog 186 #[aA s] w λe w'=>e=ax (aM #[.int .i32 (fV s.data.toList).1,an ar (fV s.data.toList).2])/\ai w w w':=by
 unfold maxLen at u;have b:s.size=s.data.toList.length:=rfl;by_cases r:0<s.size
 rotate_left
 .have g:s.data.toList.isEmpty=true:=by rw[List.isEmpty_iff,<-SN];omega
  have i:fV s.data.toList=(0,0):=by unfold fV;rw[g];rfl
  rw[i];have f:∀a,(Instr.next w true a).run prog (w.iter s 0)=_:=λa=>run_next_end w s 0 a r
  have j:(s.size:Int)=0:=by omega
  have l:=au j;clear i g b j;go_in;go_wp2;go_loopw [4] (λh wr=>h=.int .i32 0/\wr=w.iter s 0) (λ_ _=>0)
  case atStart=>exact⟨rfl,rfl⟩
  case round=>
   obtain⟨rfl,rfl⟩:=hrel;go_wp2;go_ret2;exact⟨by rw[l.o];rfl,(aO _ _).alloc (aP _) _⟩
 .have g:s.data.toList.isEmpty=false:=by
   cases h:s.data.toList.isEmpty
   .rfl
   .rw[List.isEmpty_iff,<-SN]at h;omega
  have i:fV s.data.toList=((Utf8.decode s 0).1,min (Utf8.decode s 0).2 s.size):=by unfold fV;rw[g,mY];rfl
  have m:=mZ (s.data.toList.drop 0);rw[<-mY]at m;have c:∀a,(Instr.next w true a).run prog (w.iter s 0)=_:=λa=>run_next_any w s 0 a r
  rw[i];generalize v:Utf8.decode s 0=d at*;have⟨M,n⟩:=aD (min d.2 s.size);have k:=au n;rw[<-n];clear i g v b n;have p:=au c;clear c;go_in;go_wp2;go_loopw [4] (λh wr=>∃pos:Nat,wr=w.iter s pos/\((pos=0/\h=.int .i32 0)∨(pos=d.2/\h=.int .i32 d.1))) (λ_ wr=>s.size-wr.iterPos w)
  case atStart=>exact⟨0,rfl,.inl ⟨rfl,rfl⟩⟩
  case round=>
   obtain⟨pos,rfl,⟨rfl,rfl⟩|⟨rfl,rfl⟩⟩:=hrel
   .have f:=p.o
    go_wp2;go_roundw
    case rel=>exact⟨d.2,rfl,.inr ⟨rfl,rfl⟩⟩
    case measure=>simp;omega
   .by_cases t:d.2<s.size
    .have f:∀a,(Instr.next w true a).run prog (w.iter s d.2)=_:=λa=>run_next_any w s d.2 a t
     have q:=au (show M=d.2 by rw[k.o];omega);go_wp2;go_ret2;exact⟨by rw[q.o];rfl,(aO _ _).alloc (aP _) _⟩
    .have f:∀a,(Instr.next w true a).run prog (w.iter s d.2)=_:=λa=>run_next_end w s d.2 a t
     have q:=au (show M=s.size by rw[k.o];omega);go_wp2;go_ret2;exact⟨by rw[q.o];rfl,(aO _ _).alloc (aP _) _⟩
abbrev eY:=Int×Int
structure gO where
 fin:Bool
 bO:List eY
instance:Inhabited gO:=⟨⟨false,[]⟩⟩
structure kT where
 nodes:List gO
 keys:List (List UInt8)
abbrev er:=List UInt8
def O5(keys:List er)(k:er):Option Int:=(keys.findIdx? (·==k)).map λi:Nat=>(i:Int)
def oY(rs:List er):er:=Lib.join rs [255]
def jN(p:er)(l:List er):Nat:=(l.takeWhile λs=>Lib.hasPrefix s p).length
def jE(x:er):er:=x.take (fV x).2
def dR(x:er)(l:List er):List er:=(l.take (jN (jE x) l)).map (·.drop (fV x).2)
def dz(f:kT->List er->kT×Nat):Nat->kT->List er->List eY->kT×List eY
 |0,st,_,es=>(st,es)
 |_+1,st,[],es=>(st,es)
 |n+1,st,x::l,es=>dz f n (f st (dR x (x::l))).1 ((x::l).drop (jN (jE x) (x::l))) (es++ [(((fV x).1:Int),((f st (dR x (x::l))).2:Int))])
def tX(rs:List er):Bool:=match rs with|x::_=>x.isEmpty| []=>false
def ew(rs:List er):List er:=if tX rs then rs.tail else rs
def dS:Nat->kT->List er->kT×Nat
 |0,st,_=>(st,0)
 |n+1,st,rs=>match O5 st.keys (oY rs)with
  |some i=>(st,i.toNat)
  |none=>
   (⟨(dz (dS n) (ew rs).length ⟨st.nodes++ [⟨false,[]⟩],st.keys++ [oY rs]⟩ (ew rs) []).1.nodes.set st.nodes.length ⟨tX rs,(dz (dS n) (ew rs).length ⟨st.nodes++ [⟨false,[]⟩],st.keys++ [oY rs]⟩ (ew rs) []).2⟩,
    (dz (dS n) (ew rs).length ⟨st.nodes++ [⟨false,[]⟩],st.keys++ [oY rs]⟩ (ew rs) []).1.keys⟩,st.nodes.length)
def eO(ws:List er):List gO:=if ws.isEmpty then [⟨false,[]⟩]else(dS 100 ⟨[],[]⟩ ws).1.nodes
def ltT(a b:er):Bool:=decide (Lib.compareBytes a b<0)
def xL(l:List er):Prop:=l.Pairwise λa b=>ltT a b=true
def Xr(a:er):0<=Lib.compareBytes a []:=by cases a<;>simp[Lib.compareBytes]
def Xs(p a b:er):Lib.compareBytes (p++a) (p++b)=Lib.compareBytes a b:=by
 induction p with
 |nil=>rfl
 |cons x l c=>simp[Lib.compareBytes,c]
variable{x:er}{l:List er}
def xL.nonempty(h:xL (x::l)):∀y∈l,y≠[]:=by
 intro y a e;have:=(List.pairwise_cons.1 h).1 y a;rw[e]at this;have b:=Xr x;simp[ltT]at this;omega
def xL.rest(h:xL l):xL (ew l)/\∀y∈ew l,y≠[]:=by
 unfold ew;cases l with
 |nil=>simp[tX,xL]
 |cons x l=>
  cases hx:x.isEmpty
  .have e:tX (x::l)=false:=hx
   rw[e];refine⟨h,λy a=> ?_⟩;simp only[oA,if_false]at a;obtain rfl|a:=List.mem_cons.1 a
   .intro e;rw[e]at hx;simp at hx
   .exact h.nonempty y a
  .have e:tX (x::l)=true:=hx
   rw[e];exact⟨(List.pairwise_cons.1 h).2,h.nonempty⟩
def AE{s p:er}(h:Lib.hasPrefix s p=true):s=p++s.drop p.length:=by
 unfold Lib.hasPrefix at h;obtain⟨t,rfl⟩:=List.isPrefixOf_iff_prefix.1 h;simp
def tY(h:x≠[]):1<=(fV x).2/\(fV x).2<=x.length:=by
 unfold fV;have a:=List.length_pos_iff.2 h;have:x.isEmpty=false:=by cases x<;>simp at*
 rw[this];have:=mZ x;simp only[oA,if_false];omega
def zF(h:x≠[]):(jE x).length=(fV x).2:=by
 unfold jE;rw[dw];have:=tY h;omega
def zG{p:er}:∀s∈l.take (jN p l),Lib.hasPrefix s p=true:=by
 unfold jN;rw[<-List.prefix_iff_eq_take.1 (List.takeWhile_prefix _)];intro s b
 induction l with
 |nil=>simp at b
 |cons a l c=>
  rw[List.takeWhile_cons]at b;split at b
  .obtain rfl|b:=List.mem_cons.1 b
   .assumption
   .exact c b
  .simp at b
def JH{p:er}:∀{l:List er} {k:Nat},k<=jN p l->k<l.length->Lib.hasPrefix (l.getD k ()) p=decide (k<jN p l)
 | [],k,_,h=>by simp at h
 |a::l,k,b,c=>by
  cases ha:Lib.hasPrefix a p
  .have e:jN p (a::l)=0:=by simp[jN,List.takeWhile_cons,ha]
   rw[e]at b⊢;obtain rfl:k=0:=by omega
   simpa using ha
  .have e:jN p (a::l)=jN p l+1:=by simp[jN,List.takeWhile_cons,ha]
   rw[e]at b⊢;cases k with
   |zero=>simpa using ha
   |succ k=>
    have:=JH (p:=p) (l:=l) (k:=k) (by omega) (by simpa using c);simp only[List.getD_cons_succ,Nat.add_lt_add_iff_right];exact this
def M3(p:er)(l:List er):jN p l<=l.length:=(List.takeWhile_prefix (λs=>Lib.hasPrefix s p)).length_le
def tZ(x:er)(l:List er):1<=jN (jE x) (x::l):=by
 unfold jN;rw[List.takeWhile_cons];have:Lib.hasPrefix x (jE x)=true:=by
  unfold Lib.hasPrefix jE;rw[List.isPrefixOf_iff_prefix];exact List.take_prefix _ _
 rw[aI this];simp
def nf(h:xL l)(g:x≠[]):xL (dR x l):=by
 unfold dR xL;rw[List.pairwise_map];have i:(l.take (jN (jE x) l)).Pairwise λa b=>ltT a b=true:=h.sublist (List.take_sublist _ _)
 refine List.Pairwise.imp_of_mem (λ{a b} j k c=> ?_) i;have d:=AE (zG a j);have e:=AE (zG b k);rw[zF g]at d e;unfold ltT at c⊢;rw[d,e,Xs]at c;exact c
def QC{n:Nat}(a:x≠[])(h:∀y∈l,y.length<n+1):∀y∈dR x l,y.length<n:=by
 unfold dR;intro y c;obtain⟨s,b,rfl⟩:=List.mem_map.1 c;have e:=congrArg List.length (AE (zG s b));have d:=h s (List.mem_of_mem_take b);have g:=tY a;rw[bF,zF a,j8]at e;rw[j8];omega
def tb(l:List er):Nat:=(l.map List.length).sum
def pM(x:er)(l:List er):tb (x::l)=x.length+tb l:=by simp[tb]
def AF(a b:List er):tb (a++b)=tb a+tb b:=by simp[tb]
def qX(c:x≠[]):tb (dR x l)+jN (jE x) l<=tb (l.take (jN (jE x) l)):=by
 have j:=tY c;have b:=zG (p:=jE x) (l:=l);have d:(l.take (jN (jE x) l)).length=jN (jE x) l:=by rw[dw];have:=M3 (jE x) l;omega
 unfold dR;rw[<-d];rw[d];generalize jN (jE x) l=k at*;have:∀L:List er,(∀s∈L,Lib.hasPrefix s (jE x)=true)->tb (L.map (·.drop (fV x).2))+L.length<=tb L:=λL g=>by
  induction L with
  |nil=>simp[tb]
  |cons a r h=>
   have e:=congrArg List.length (AE (g a (by simp)));rw[bF,zF c,j8]at e;have:=h λs i=>g s (by simp[i])
   rw[gi,pM,pM,cG,j8];omega
 have:=this _ b;omega
def zH(l:List er):tb (ew l)<=tb l:=by
 unfold ew;split
 .cases l with
  |nil=>simp
  |cons a l=>rw[pM];simp
 .exact aP _
def T3(h:x∈ew l):x∈l:=by
 unfold ew at h;split at h
 .exact List.mem_of_mem_tail h
 .exact h
variable{f:kT->List er->kT×Nat}
def wZ(b:∀st l,xL l->(f st l).1.nodes.length<=st.nodes.length+1+tb l/\((f st l).1.nodes.length=(f st l).1.keys.length↔st.nodes.length=st.keys.length)):
 ∀(n:Nat) (st:kT) (l:List er) (es:List eY),xL l->(∀y∈l,y≠[])->(dz f n st l es).1.nodes.length<=st.nodes.length+tb l/\((dz f n st l es).1.nodes.length=(dz f n st l es).1.keys.length↔st.nodes.length=st.keys.length)
 |0,st,l,es,_,_=>⟨by simp[dz],by simp[dz]⟩
 |n+1,st,[],es,_,_=>⟨by simp[dz],by simp[dz]⟩
 |n+1,st,x::l,es,c,a=>by
  have d:=a x (by simp);have e:=b st _ (nf c d);have i:=qX (l:=x::l) d;have j:=tZ x l;have k:tb (x::l)=tb ((x::l).take (jN (jE x) (x::l)))+tb ((x::l).drop (jN (jE x) (x::l))):=by rw[<-AF,mE]
  have g:=wZ b n (f st (dR x (x::l))).1 ((x::l).drop (jN (jE x) (x::l))) (es++ [(((fV x).1:Int),((f st (dR x (x::l))).2:Int))]) (c.sublist (List.drop_sublist _ _)) (λy h=>a y (nu h));unfold dz;exact⟨by omega,g.2.trans e.2⟩
def nI:∀(n:Nat) (st:kT) (l:List er),xL l->(dS n st l).1.nodes.length<=st.nodes.length+1+tb l/\((dS n st l).1.nodes.length=(dS n st l).1.keys.length↔st.nodes.length=st.keys.length)
 |0,st,l,_=>⟨by simp[dS];omega,by simp[dS]⟩
 |n+1,st,l,a=>by
  unfold dS;split
  .exact⟨by simp;omega,by simp⟩
  .have h:=wZ (nI n) (ew l).length ⟨st.nodes++ [⟨false,[]⟩],st.keys++ [oY l]⟩ (ew l) [] a.rest.1 a.rest.2
   have:=zH l;simp only[ds,bF,cG,dx]at h⊢;exact⟨by omega,by rw[h.2];omega⟩
def AG(a:∀st l,st.nodes.length<=(f st l).1.nodes.length):
 ∀(n:Nat) (st:kT) (l:List er) (es:List eY),st.nodes.length<=(dz f n st l es).1.nodes.length
 |0,st,l,es=>by simp[dz]
 |n+1,st,[],es=>by simp[dz]
 |n+1,st,x::l,es=>by
  unfold dz;exact bD (a st _) (AG a n _ _ _)
def Ef:∀(n:Nat) (st:kT) (l:List er),st.nodes.length<=(dS n st l).1.nodes.length
 |0,st,l=>by simp[dS]
 |n+1,st,l=>by
  unfold dS;split
  .simp
  .have h:=AG (Ef n) (ew l).length ⟨st.nodes++ [⟨false,[]⟩],st.keys++ [oY l]⟩ (ew l) []
   simp only[ds,bF,cG,dx]at h⊢;omega
def M4:(prog.info? 226).map (λi=>(i.zero,i.size,i.bytes))=some (some (aG #[an ar 0,an ar 0,aw false,aw false,an ar 0,aA ByteArray.empty,()]),7,72):=by kernel_rfl
def iC(d:Int):dQ:=⟨⟨d,0,decide (d<0),false,(0,ByteArray.empty),[]⟩,(),none⟩
def T4(l:List dQ)(x:dQ):Cu (l++ [x])=Cu l++x.cells:=by simp[Cu]
def Seg.QD{w:ae}{g:Option Nat}{v:ah}{l:List dQ}(h:Seg w 226 7 g v (Cu l) l.length)(d:Int)(m:l.length<=1000):
 ∃a c w' g',(∀f,(Builtin.append_ #[222,222] f #[v,av (some ⟨w,0,none⟩) 1 1]).run prog (w.alloc (aB #[(d:Int),an ar 0,aw (decide (d<0)),aw false,an ar 0,aA ByteArray.empty,()] 226 (0,0)))=.ok (av a (l.length+1) c) w')/\Seg w' 226 7 g' (av a (l.length+1) c) (Cu (l++ [iC d])) (l++ [iC d]).length/\aQ g.toList w w'/\(g'=g∨∃b,g'=some b/\w.heap.size<=b):=by
 have⟨n,w',g',i,e,j,k⟩:=h.push 222 underlying222 M4 rfl (by decide) (iC d).cells rfl (by simp[iC,dQ.cells,Value.oneCell']) (by omega) (by decide);obtain⟨a,c,rfl,_⟩:=e.len;rw[<-T4]at e;refine⟨a,c,w',g',i,?_,j,k⟩;rw[bF];exact e
def qY(w:ae)(p:Nat)(n:Int)(L:List dQ)(k:Nat)(wr:ae):Prop:=
 ∃gs sv,wr.heap[p]? =some (aB #[(n:Int),sv,()] 224 (0,0))/\Seg wr 226 7 gs sv (Cu (L.take k)) (L.take k).length/\(∀z,gs=some z->w.heap.size<=z/\z≠p)/\ai w w wr
def qY.drew{wr:ae}{p:Nat}{n:Int}{L:List dQ}{k:Nat}(h:qY w p n L k wr):qY w p n L k wr.drew:=by
 obtain⟨a,b,c,d,e,f⟩:=h;exact⟨a,b,c,d.bH (aQ.refl ([]:List Nat) wr).drew (by simp),e,f.drew⟩
def qY.push{wr:ae}{p:Nat}{n:Int}{xs:List Int}{k:Nat}(h:qY w p n (xs.map iC) k wr)(B:w.heap.size<=p)(C:k<xs.length)(d:xs.length<=6):
 ∃f a c t,wr.heap[p]? =some (aB #[n,f,()] 224 (0,0))/\(∀E,(Builtin.append_ #[222,222] E #[f,av (some ⟨wr,0,none⟩) 1 1]).run prog (wr.alloc (aB #[an ar (xs.getD k 0),an ar 0,aw (decide (xs.getD k 0<0)),aw false,an ar 0,aA ByteArray.empty,()] 226 (0,0)))=.ok (av a (k+1) c) t)/\t.heap[p]? =some (aB #[n,f,()] 224 (0,0))/\qY w p n (xs.map iC) (k+1) (t.setCell ⟨p,1,none⟩ (av a (k+1) c)):=by
 obtain⟨I,f,q,F,r,m⟩:=h;have g:((xs.map iC).take k).length=k:=by rw[dw,cr];omega
 have⟨a,c,t,v,x,y,s,G⟩:=F.QD (xs.getD k 0) (by omega);rw[g]at x;have u:(xs.map iC).take k++ [iC (xs.getD k 0)]=(xs.map iC).take (k+1):=by
  rw[List.take_add_one];simp[aU,C]
 rw[u,g]at y;have H:=az q;have j:t.heap[p]? =_:=s.at q (λd=>(r p (by simpa using d)).2 rfl);have l:∀z,v=some z->w.heap.size<=z/\z≠p:=λz o=>by
  obtain e|⟨b,e,A⟩:=G
  .exact r z (by rw[<-e,o])
  .rw[o]at e
   simp only[bA]at e;subst e;have:=m.size;exact⟨by omega,by omega⟩
 refine⟨f,a,c,t,q,x,j,v,av a (k+1) c,by simpa using aE (i:=1) j (av a (k+1) c),?_,l,?_⟩
 .refine y.bH ((aQ.refl [p] t).setCell _ (by simp) _) λb A d=> ?_
  simp only[cm]at d;exact(l b A).2 d
 .refine(m.trans (aQ.below s (λz o=>(r z (by simpa using o)).1) m.size)).trans (aQ.below ((aQ.refl [p] t).setCell _ (by simp) _) (by simpa using B) ?_)
  exact bD m.size s.size
def Eg(xs:List Int)(n:Int):Bool:=decide (xs.length≠0)&&(decide (xs.length<=6)&&(decide (1<=n)&&decide (n<=10)))
def T5{v:ah}{xs:List Int}(h:aT dX 1 w v xs)(n:Int)(z:Eg xs n=true):
 aj prog 93 #[v,(n:Int)] w λe w'=>e=ax (aM #[w.heap.size,an ar 0])/\qY w w n (xs.map iC) xs.length w':=by
 have J:=au h;obtain⟨a,K,rfl,L,_,_⟩:=h;unfold maxLen at L;unfold Eg at z;simp only[cV,ei]at z;obtain⟨M,N,O,P⟩:=z;have Z:((xs.length:Int)==0)=false:=by
  simp only[j7,ne_eq];omega
 have b1:¬(6:Int)<(xs.length:Int):=by omega
 have b2:¬n<1:=by omega
 have b3:¬10<n:=by omega
 have⟨u,A⟩:=aD (w.alloc (aB #[(n:Int),(),()] 224 (0,0)));have⟨C,E,Q⟩:=dt A;have⟨F,T⟩:=aK (show qY w w n (xs.map iC) 0 u from⟨none,(),C,Seg.nil u _ _,by simp,E.aJ⟩) A;have⟨p,y⟩:=aD w.heap.size;have U:=au y;have B:=Nat.le_of_eq y.symm;rw[<-y]at F⊢;clear A C E Q y;go_in;go_upto_region 4 with fail
 rw[<-T.o,<-U.o];go_wp2_with fail
 go_loopw [30] (λi wr=>∃k:Nat,i=an ar k/\k<=xs.length/\qY w p n (xs.map iC) k wr) (λi _=>xs.length-(intOf i).toNat)
 case atStart=>exact⟨0,rfl,bz _,F.o⟩
 case round=>
  obtain⟨k,rfl,hk,j⟩:=hrel;by_cases l:k<xs.length
  .have m:ai w w wr:=by
    obtain⟨_,_,_,_,_,V⟩:=j;exact V
   obtain⟨b,W,rfl,X,G⟩:=(J.o.below m).slot k l;have H:=G 0 _ rfl;simp only[Nat.mul_one,bM]at H;have⟨sv,a',c',t,q,c,g,d⟩:=j.push B l (by omega);have f:=q;have k1:=aF f 1 rfl;have kt:=aF g 1 rfl;have ft:=bB g 1;have I:xs.getD k ()=xs.getD k 0:=rfl;rw[I]at H;generalize xs.getD k 0=x at*;have⟨r,s⟩:=aK d c;have q1:(0:Int)<=(k:Int):=by omega
   have q2:(k:Int)<(xs.length:Int):=by omega
   clear j m G q f g d c I;go_wp2_with (refine cE (by rfl) (.tmp 38) (.tmp 43) 222 (by rfl) _ _ _ t (by rfl) (by rfl) (s.o _) ?_);go_roundw
   case rel=>exact⟨k+1,rfl,by omega,r.o⟩
   case measure=>simp[intOf];omega
  .obtain rfl:k=xs.length:=by omega
   have Y:=au j;clear j;go_wp2;go_ret2;exact⟨rfl,Y.o⟩
def qY.mg{w w':ae}{p:Nat}{n:Int}{xs:List Int}(h:qY w p n (xs.map iC) xs.length w')(t:w.heap.size<=p)(f:Eg xs n=true):
 ∃c i,ir w' p n c none i () (xs.map iC) []/\(∀z∈eh p c none (xs.map iC),w.heap.size<=z)/\ai w w w':=by
 obtain⟨c,i,u,o,q,v⟩:=h;rw[jY (by simp)]at o;unfold Eg at f;simp only[cV,ei]at f;obtain⟨_,j,k,l⟩:=f;have e:∀m∈xs.map iC,m.wb=none/\m.wv=av none 0 0/\m.s.waits=[]:=λm a=>by
  obtain⟨d,_,rfl⟩:=List.mem_map.1 a;exact⟨rfl,rfl,rfl⟩
 refine⟨c,i,⟨u,o,Seg.nil _ _ _,λm a=> ?_,?_,λm a x r=> ?_,by simpa using j,k,l,by simp;omega,λm a=> ?_⟩,λz b=> ?_,v⟩
 .have⟨y,A,B⟩:=e m a
  unfold dQ.row;rw[y,A,B];exact Seg.nil _ _ _
 .cases c with
  |none=>simp
  |some g=>have:=(q g rfl).2;simp;omega
 .rw[(e m a).1]at r
  cases r
 .rw[(e m a).2.2]
  simp
 .simp only[eh,bQ,dJ,mF,eZ]at b
  obtain rfl|(b|b)|⟨m,a,b⟩:=b
  .exact t
  .exact(q z b).1
  .cases b
  .rw[(e m a).1]at b
   cases b
def FN(least:Int):Bool->aY->List aY->Bool
 |_,_,[]=>true
 |heard,last,x::l=> !((heard&& !cR last x)||decide (x.1<least))&&FN least true x l
def jv.put(s:jv)(items:List aY)(fin:Bool):jv:={s with last:=items.getLast?.getD s.last,heard:=s.heard|| !items.isEmpty,waits:=items,seq:=IntKind.i64.wrap (s.seq+1),ended:=fin}
def w_(n:Int)(ss:List jv)(told:List aY)(i seq:Int)(len:Nat)(fin:Bool):Option Nat:=
 match O1 ss.length i with
 |none=>none
 |some k=>if jM n ss told||(!(ss.getD k ()).wanted||(decide ((ss.getD k ()).seq≠seq)||(decide (5<len)||(decide (len=0)&& !fin))))then none else some k
def qt(n:Int)(ss:List jv)(told:List aY)(i seq:Int)(items:List aY)(fin:Bool):Option (List jv):=
 match w_ n ss told i seq items.length fin with
 |none=>none
 |some k=>if FN (ss.getD k ()).least (ss.getD k ()).heard (ss.getD k ()).last items then some (ss.set k ((ss.getD k ()).put items fin))else none
def ir.at{w:ae}{p:Nat}{n:Int}{e l:Option Nat}{g m:ah}{ms:List dQ}{told:List aY}(h:ir w p n e l g m ms told){a:Nat×Nat}(o:JF e g ms.length a){k:Nat}(i:k<ms.length):e=some a.1/\ShAt w a.1 (a.2+k*7) (ms.getD k ()):=by
 have⟨b,q,r,t,u,_,f⟩:=h.s.aR (by omega);have⟨j,c,d⟩:=o k i;refine⟨c,?_⟩;rw[t]at c;rw[u]at d;simp only[bG,bA,dr,bK]at c d;rw[<-c,<-d.1.2.1];exact f k i
def aax{w:ae}{p:Nat}{n:Int}{N O:Option Nat}{P Q:ah}{ms:List dQ}{told:List aY}(h:ir w p n N O P Q ms told)(i j:Int)(T:Option Addr)(f F:Nat)(m:Bool)(U:f<=1000)(b:w_ n (ms.map dQ.s) told i j f m=none):
 aj prog 255 #[p,i,j,av T f F,aw m] w λe w'=>e=ax (aw false)/\ai w w w':=by
 have⟨a,C⟩:=h.shs;have l:=au (O2 h i C);unfold w_ at b;rw[cr]at b;cases hat:O1 ms.length i with
 |none=>
  rw[hat]at l;have e:MW a none=aL none:=rfl;rw[e]at l;clear h C hat e b;go_in;go_wp2_with fail
  refine aH l.o ?_;go_wp2;go_ret;exact⟨rfl,aO _ _⟩
 |some k=>
  have E:=vh hat;rw[hat]at l b;have e:MW a (some k)=aL (some ⟨a.1,a.2+k*7,none⟩):=rfl;rw[e]at l;have⟨G,q⟩:=h.at C E;have v:=q.2 1 _ rfl;have t:=q.1;have z:=au (JD h);have A:∃a c,(ms.getD k ()).wv=av a (ms.getD k ()).s.waits.length c:=by
   have⟨a,c,e,_⟩:=Seg.len (show Seg w 83 2 (ms.getD k ()).wb (ms.getD k ()).wv _ _ from h.r _ (bh ms k E));exact⟨a,c,e⟩
  have B:=au (λ(y:ae) (d:ai w w y)=>zE (q.below d) A);simp only at b;rw[u_ ms k E]at b;generalize jM n (ms.map dQ.s) told=db at*;generalize(ms.getD k ()).s.wanted=wd at*;generalize(ms.getD k ()).s.seq=sq at*;obtain⟨H,I⟩:=a;simp only at l B v t;clear h C hat e E G q A;cases db
  .cases wd
   .clear b
    go_in;go_wp2_with fail
    refine aH l.o ?_;go_wp2_with fail
    refine aN z.o ?_;intro y d;have⟨g,u⟩:=aK (B.o y d) d;clear d;go_wp2_with fail
    refine aH g.o ?_;go_wp2;go_ret;exact⟨rfl,u.o⟩
   .by_cases x:sq=j
    .by_cases J:5<f
     .have K:(sq !=j)=false:=by simp[x]
      have V:(5:Int)<(f:Int):=by omega
      clear b x J;go_in;go_wp2_with fail
      refine aH l.o ?_;go_wp2_with fail
      refine aN z.o ?_;intro y d;have g:=au (B.o y d);have L:=(d.cell (p:=⟨H,I+k*7+1,none⟩) t).trans v;have u:=au d;clear d v;go_wp2_with fail
      refine aH g.o ?_;go_wp2;go_ret;exact⟨rfl,u.o⟩
     .have M:(decide (f=0)&& !m)=true:=by
       cases hq:(decide (f=0)&& !m)with
       |true=>rfl
       |false=>
        rw[hq,x]at b;simp[J]at b
      simp only[cV,ei,Bool.not_eq_true']at M;obtain⟨rfl,rfl⟩:=M;have K:(sq !=j)=false:=by simp[x]
      clear b x J;go_in;go_wp2_with fail
      refine aH l.o ?_;go_wp2_with fail
      refine aN z.o ?_;intro y d;have g:=au (B.o y d);have L:=(d.cell (p:=⟨H,I+k*7+1,none⟩) t).trans v;have u:=au d;clear d v;go_wp2_with fail
      refine aH g.o ?_;go_wp2;go_ret;exact⟨rfl,u.o⟩
    .have K:(sq !=j)=true:=by simp[x]
     clear b x;go_in;go_wp2_with fail
     refine aH l.o ?_;go_wp2_with fail
     refine aN z.o ?_;intro y d;have g:=au (B.o y d);have L:=(d.cell (p:=⟨H,I+k*7+1,none⟩) t).trans v;have u:=au d;clear d v;go_wp2_with fail
     refine aH g.o ?_;go_wp2;go_ret;exact⟨rfl,u.o⟩
  .clear b
   go_in;go_wp2_with fail
   refine aH l.o ?_;go_wp2_with fail
   refine aN z.o ?_;intro y d;have u:=au d;clear d;go_wp2;go_ret;exact⟨rfl,u.o⟩
structure oZ(w wr:ae)(q:Nat)(least:Int)(s:jv)(items:List aY)(j:Nat)(hd:Bool)(l:aY):Prop where
 n:j<=items.length
 c:wr.heap[q]? =some (aB #[an ar l.1,aA l.2] 83 (0,0))
 b:ai w w wr
 k:FN least s.heard s.last items=FN least hd l (items.drop j)
 f:hd=(s.heard||decide (0<j))
 e:(items.drop j).getLast?.getD l=items.getLast?.getD s.last
def oZ.start{wr:ae}{q:Nat}{a:Int}{s:jv}{b:List aY}(c:wr.heap[q]? =some (aB #[an ar s.last.1,aA s.last.2] 83 (0,0)))(d:ai w w wr):oZ w wr q a s b 0 s.heard s.last:=
 ⟨bz _,c,d,rfl,by simp,rfl⟩
def AH{a:List aY}{j:Nat}(h:j<a.length):a.drop j=a.getD j ()::a.drop (j+1):=by
 rw[List.drop_eq_getElem_cons h];simp[aU,h]
variable{l:aY}
def oZ.bad{wr:ae}{q:Nat}{b:Int}{s:jv}{a:List aY}{j:Nat}{hd:Bool}(h:oZ w wr q b s a j hd l)(c:j<a.length)(d:((hd&& !cR l (a.getD j ()))||decide ((a.getD j ()).1<b))=true):FN b s.heard s.last a=false:=by
 rw[h.k,AH c];unfold FN;rw[d];rfl
def oZ.next{wr y:ae}{q:Nat}{c:Int}{s:jv}{b:List aY}{j:Nat}{hd:Bool}(h:oZ w wr q c s b j hd l)(d:j<b.length)(f:((hd&& !cR l (b.getD j ()))||decide ((b.getD j ()).1<c))=false)
 (g:y.heap[q]? =some (aB #[an ar (b.getD j ()).1,aA (b.getD j ()).2] 83 (0,0))) (i:ai w w y):oZ w y q c s b (j+1) true (b.getD j ()):=by
 refine⟨by omega,g,i,?_,by simp,?_⟩
 .rw[h.k,AH d]
  conv=>lhs;unfold FN
  rw[f];rfl
 .rw[<-h.e,AH d]
  cases hl:b.drop (j+1)with
  |nil=>simp
  |cons a r=>simp[List.getLast?_cons]
def oZ.done{wr:ae}{q:Nat}{b:Int}{s:jv}{a:List aY}{hd:Bool}(h:oZ w wr q b s a a.length hd l):FN b s.heard s.last a=true/\l=a.getLast?.getD s.last/\hd=(s.heard|| !a.isEmpty):=by
 have c:=h.k;have d:=h.e;have g:=h.f;rw[List.drop_length]at c d;refine⟨by rw[c];rfl,by simpa using d,?_⟩;rw[g];cases a<;>simp
def dQ.put(m:dQ)(items:List aY)(fin:Bool)(v:ah)(g:Option Nat):dQ:=⟨m.s.put items fin,v,g⟩
def Xt(ms:List dQ)(k:Nat)(f:k<ms.length)(b:List aY)(e:Bool)(v:ah)(g:Option Nat):
 Cu (ms.set k ((ms.getD k ()).put b e v g))=((((((Cu ms).set (k*7+4) (an ar (b.getLast?.getD (ms.getD k ()).s.last).1)).set (k*7+5) (aA (b.getLast?.getD (ms.getD k ()).s.last).2)).set (k*7+3) (aw ((ms.getD k ()).s.heard|| !b.isEmpty))).set (k*7+6) v).set (k*7+1) (IntKind.i64.wrap ((ms.getD k ()).s.seq+1):Int)).set (k*7+2) (aw e):=by
 induction ms generalizing k with
 |nil=>simp at f
 |cons a l h=>
  have c:a.cells.length=7:=rfl;cases k with
  |zero=>
   simp only[cC,List.getD_cons_zero,Cu,eI,Nat.zero_mul,eJ];rw[List.set_append_left _ _ (by simp[c]),List.set_append_left _ _ (by simp[c]),List.set_append_left _ _ (by simp[c]),List.set_append_left _ _ (by simp[c]),List.set_append_left _ _ (by simp[c]),List.set_append_left _ _ (by simp[c])];rfl
  |succ k=>
   have:=h k (by simpa using f);simp only[ct,List.getD_cons_succ,Cu,eI]at this⊢;rw[this];have d:∀(L:List ah) (j:Nat) (u:ah),(a.cells++L).set ((k+1)*7+j) u=a.cells++L.set (k*7+j) u:=λL j u=>by
    rw[List.set_append_right _ _ (by rw[c];omega),c,show(k+1)*7+j-7=k*7+j by omega]
   rw[d,d,d,d,d,d]
def T6(w:ae)(b o:Nat)(last:aY)(hd:Bool)(v:ah)(seq:Int)(fin:Bool):ae:=
 (((((w.setCell ⟨b,o+4,none⟩ (last.1:Int)).setCell ⟨b,o+5,none⟩ (aA last.2)).setCell ⟨b,o+3,none⟩ (aw hd)).setCell ⟨b,o+6,none⟩ v).setCell ⟨b,o+1,none⟩ (seq:Int)).setCell ⟨b,o+2,none⟩ (aw fin)
def JI(w:ae)(b o:Nat)(a:aY)(hd:Bool)(v:ah)(c:Int)(d:Bool):aQ [b] w (T6 w b o a hd v c d):=
 ((((((aQ.refl [b] w).setCell _ (by simp) _).setCell _ (by simp) _).setCell _ (by simp) _).setCell _ (by simp) _).setCell _ (by simp) _).setCell _ (by simp) _
def ir.putAt{p u C A:Nat}{n:Int}{F:Option Nat}{H:ah}{ms:List dQ}{told:List aY}(h:ir w p n (some u) F (av (some ⟨u,C,none⟩) ms.length A) H ms told)(k:Nat)(L:k<ms.length){a:List aY}(M:a.length<=5)(f:Bool){v:ah}{g:Option Nat}(N:Seg w 83 2 g v (dT a) a.length)(I:∀x,g=some x->x∉p::((some u).toList++F.toList)):
 ir (T6 w u (C+k*7) (a.getLast?.getD (ms.getD k ()).s.last) ((ms.getD k ()).s.heard|| !a.isEmpty) v (IntKind.i64.wrap ((ms.getD k ()).s.seq+1)) f) p n (some u) F (av (some ⟨u,C,none⟩) ms.length A) H (ms.set k ((ms.getD k ()).put a f v g)) told:=by
 have E:=h.d;have J:=h.e;have i:=JI w u (C+k*7) (a.getLast?.getD (ms.getD k ()).s.last) ((ms.getD k ()).s.heard|| !a.isEmpty) v (IntKind.i64.wrap ((ms.getD k ()).s.seq+1)) f;have G:=iw (iw (iw (iw (iw (iw h.s (j:=k*7+4) (by omega) (an ar (a.getLast?.getD (ms.getD k ()).s.last).1)) (j:=k*7+5) (by omega) (aA (a.getLast?.getD (ms.getD k ()).s.last).2)) (j:=k*7+3) (by omega) (aw ((ms.getD k ()).s.heard|| !a.isEmpty))) (j:=k*7+6) (by omega) v) (j:=k*7+1) (by omega) (IntKind.i64.wrap ((ms.getD k ()).s.seq+1):Int)) (j:=k*7+2) (by omega) (aw f);rw[<-Xt ms k L a f v g]at G;simp only[<-Nat.add_assoc]at G;have o:∀m∈ms.set k ((ms.getD k ()).put a f v g),m∈ms∨m=(ms.getD k ()).put a f v g:=λm y=>by
  obtain e|e:=jC y
  .exact .inl e
  .exact .inr e
 refine⟨?_,by rw[ds];exact G,?_,?_,E,?_,by rw[ds];exact h.l,h.n1,h.n2,h.tl,?_⟩
 .exact i.at h.c (by simp at E⊢;exact E.1.1)
 .refine h.t.bH i λb B q=> ?_
  simp at q;subst q;subst B;simp at E
 .intro m y
  obtain e|rfl:=o m y
  .exact Seg.bH (show Seg w 83 2 m.wb m.wv _ _ from h.r m e) i λb B q=>J m e b B (by simp at q⊢;simp[q])
  .exact Seg.bH N i λb B q=>I b B (by simp at q⊢;simp[q])
 .intro m y z K
  obtain e|rfl:=o m y
  .exact J m e z K
  .exact I z K
 .intro m y
  obtain e|rfl:=o m y
  .exact h.wl m e
  .exact M
def pN(w:ae)(p:Nat)(n:Int)(gs gt:Option Nat)(sv tv:ah)(ms:List dQ)(told:List aY)(k:Nat)(items:List aY)(fin:Bool)(w':ae):Prop:=
 ∃v g,ir w' p n gs gt sv tv (ms.set k ((ms.getD k ()).put items fin v g)) told/\aQ gs.toList w w'/\(∀x,g=some x->w.heap.size<=x)
def mW(c:Bool)(w:ae)(R:ae->Prop)(e:ak)(w':ae):Prop:=(c=false/\e=ax (aw false)/\ai w w w')∨(c=true/\e=ax (aw true)/\R w')
variable{R:ae->Prop}
def mW.no{c:Bool}{w':ae}{e:ak}(a:c=false)(b:e=ax (aw false))(d:ai w w w'):mW c w R e w':=.inl ⟨a,b,d⟩
def mW.yes{c:Bool}{w':ae}{e:ak}(a:c=true)(b:e=ax (aw true))(d:R w'):mW c w R e w':=.inr ⟨a,b,d⟩
def Xu{z:ae}{p:Nat}{n:Int}{e j:Option Nat}{f m:ah}{ms:List dQ}{told:List aY}(h:ir w p n e j f m ms told){o q:Nat}(C:JF e f ms.length (o,q)){k:Nat}(r:k<ms.length){a:List aY}(E:a.length<=5)(b:Bool)(t:ai w w z){B:Nat}{v:ah}(F:Own B 83 2 z v (dT a) a.length)(G:w.heap.size<=B){l:aY}{hd:Bool}{c:Int}
 (H:l=a.getLast?.getD (ms.getD k ()).s.last) (I:hd=((ms.getD k ()).s.heard|| !a.isEmpty)) (J:(ms.getD k ()).s.seq=c):pN w p n e j f m ms told k a b (T6 z o (q+k*7) l hd v (IntKind.i64.wrap (c+1)) b):=by
 have⟨K,u,y⟩:=C k r;simp only at u y;subst u y H I J;have⟨g,L,d⟩:=F.Cs;refine⟨v,g,(h.bH (aQ.of_below t)).putAt k r E b L (λx i A=> ?_),((aQ.of_below t).trans (JI ..)),λx i=>bD G (d x i)⟩;have M:=d x i;have N:=h.lt x (by
  unfold eh;simp only[bQ,dJ]at A⊢;exact A.imp id .inl)
 omega
def AI{n:Int}{ms:List dQ}{told:List aY}{i b:Int}{a k:Nat}{c:Bool}(h:w_ n (ms.map dQ.s) told i b a c=some k):
 O1 ms.length i=some k/\k<ms.length/\jM n (ms.map dQ.s) told=false/\(ms.getD k ()).s.wanted=true/\(ms.getD k ()).s.seq=b/\a<=5/\(a=0->c=true):=by
 unfold w_ at h;rw[cr]at h;cases hat:O1 ms.length i with
 |none=>rw[hat]at h;cases h
 |some j=>
  have e:=vh hat;rw[hat]at h;simp only at h;split at h
  .cases h
  .rename_i d
   obtain rfl:j=k:=by simpa using h
   rw[u_ ms j e]at d;simp only[Bool.or_eq_true,not_or,Bool.not_eq_true,Bool.not_eq_true',ei,cV,not_and]at d;obtain⟨f,g,l,m,o⟩:=d;refine⟨rfl,e,f,by simpa using g,by simpa using l,by simpa using m,λp=> ?_⟩;simpa[p]using o
def ir.frz{w:ae}{p:Nat}{n:Int}{i o:Option Nat}{l q:ah}{ms:List dQ}{told:List aY}(h:ir w p n i o l q ms told){a:Nat×Nat}(r:JF i l ms.length a){k:Nat}(e:k<ms.length):∀j,j<7->w.frozen? ⟨a.1,a.2+k*7+j,none⟩=false:=by
 intro j f;have⟨b,t,u,v,x,_,g⟩:=h.s.cell (by decide) k e;have⟨m,c,d⟩:=r k e;rw[v]at c;rw[x]at d;simp only[bG,bA,dr,bK]at c d;rw[<-c,<-d.1.2.1];have y:j<(ms.getD k ()).cells.length:=f;exact(g j _ f (by rw[tV ms k j e f];exact jZ y)).2
def Xv(z:ae)(b o:Nat)(c:Int)(d:ByteArray)(hd:Bool)(v:ah)(q:Int)(a:Bool):(((((z.setCell ⟨b,o+4,none⟩ (c:Int)).setCell ⟨b,o+4+1,none⟩ (aA d)).setCell ⟨b,o+3,none⟩ (aw hd)).setCell ⟨b,o+6,none⟩ v).setCell ⟨b,o+1,none⟩ (wrap64 q:Int)).setCell ⟨b,o+2,none⟩ (aw a)=T6 z b o (c,d) hd v (IntKind.i64.wrap q) a:=by
 rw[show o+4+1=o+5 from rfl,show wrap64 q=IntKind.i64.wrap q from(IntWalk.i64_left q).symm];simp only[T6]
def AJ(L:List aY)(k j:Nat)(b:k<L.length)(f:j<2):(dT L)[k*2+j]? =(rK (L.getD k ()))[j]? :=by
 induction L generalizing k with
 |nil=>simp at b
 |cons a l c=>
  have e:dT (a::l)=rK a++dT l:=by simp[dT]
  have d:(rK a).length=2:=rfl;cases k with
  |zero=>
   rw[e,Nat.zero_mul,eJ,gZ (by omega)];rfl
  |succ k=>
   rw[e,g_ (by omega),d,show(k+1)*2+j-2=k*2+j by omega,c k (by simpa using b)];rfl
def Xw{w:ae}{p:Nat}{n:Int}{gs gt:Option Nat}{sv tv:ah}{ms:List dQ}{told:List aY}(h:ir w p n gs gt sv tv ms told)(i seq:Int){ig:Option Nat}{iv:ah}{d:List aY}(hi:Seg w 83 2 ig iv (dT d) d.length)(N:Bool){k:Nat}(hok:w_ n (ms.map dQ.s) told i seq d.length N=some k):
 aj prog 255 #[p,i,seq,iv,aw N] w λe w'=>mW (FN (ms.getD k ()).s.least (ms.getD k ()).s.heard (ms.getD k ()).s.last d) w (pN w p n gs gt sv tv ms told k d N) e w':=by
 have⟨hat,hk,hdb,hwd,hsq,hl5,hl0⟩:=AI hok;have⟨a,ha⟩:=h.shs;have HG:=au (O2 h i ha);rw[hat,show MW a (some k)=aL (some ⟨a.1,a.2+k*7,none⟩)from rfl]at HG;have⟨hga,E⟩:=h.at ha hk;have HD:=au (JD h);rw[hdb]at HD;have Z:∃a c,(ms.getD k ()).wv=av a (ms.getD k ()).s.waits.length c:=by
  have⟨a,c,e,_⟩:=Seg.len (show Seg w 83 2 (ms.getD k ()).wb (ms.getD k ()).wv _ _ from h.r _ (bh ms k hk));exact⟨a,c,e⟩
 have HW:=au (λ(y:ae) (X:ai w w y)=>zE (E.below X) Z);rw[hwd]at HW;obtain⟨ia,aic,rfl,_,him⟩:=hi.len;unfold maxLen at him;have⟨HI,f,K⟩:=aX hi E (h.frz ha hk);have L:=E.1;have c1:=E.2 1 _ rfl;rw[hsq]at c1;have⟨C1,HK⟩:=aK c1 (λ(z:ae) (B:Nat) (v:ah) (l:aY) (hd:Bool) g ho hB e1 e2=>Xu (z:=z) (B:=B) (v:=v) (l:=l) (hd:=hd) h ha hk hl5 N g ho hB e1 e2 hsq);have⟨R,hR⟩:=aD (pN w p n gs gt sv tv ms told k d N);rw[<-hR]at HK⊢;clear hR;have c3:=E.2 3 _ rfl;have c4:=E.2 4 _ rfl;have c5:=E.2 5 _ rfl;have c0:=E.2 0 _ rfl;simp only[bM]at c0;obtain⟨G,H⟩:=a;simp only at K HG HW f HK C1 c0 c1 c3 c4 c5 L;have⟨s,hs⟩:=aD ((ms.getD k ()).s);rw[<-hs]at c0 c3 c4 c5 HK⊢;have HS:=au hs;have b2:¬(5:Int)<(d.length:Int):=by omega
 have b3:((d.length:Int)==0)=false∨(((d.length:Int)==0)=true/\N=true):=by
  by_cases h0:d.length=0
  .exact .inr ⟨by simp[h0],hl0 h0⟩
  .left;simp only[j7,ne_eq];omega
 clear h ha hat hdb hwd hsq hga E Z hi hs hok hl0;have HB3:=au b3;clear b3;go_in;go_wp2_with fail
 refine aH HG.o ?_;go_wp2_with fail
 refine aN HD.o ?_;intro y X;have HW2:=au (HW.o y X);have d1:=(X.cell (p:=⟨G,H+k*7+1,none⟩) L).trans c1;have d3:=(X.cell (p:=⟨G,H+k*7+3,none⟩) L).trans c3;have d4:=(X.cell (p:=⟨G,H+k*7+4,none⟩) L).trans c4;have d5:=(X.cell (p:=⟨G,H+k*7+5,none⟩) L).trans c5;have hay:=bP L X.size;have HY:=au X;clear X c0 c1 c3 c4 c5 L;go_wp2_with fail
 refine aH HW2.o ?_;have⟨u,hu⟩:=aD ((y.alloc (aB #[an ar s.last.1,aA s.last.2] 83 (0,0))).drew);have hP0:oZ w u y s.least s d 0 s.heard s.last:=oZ.start (by rw[hu];exact a_ _ _) (by rw[hu];exact HY.o.trans (((aO _ _).alloc HY.o.size _).drew));have⟨HP0,HU⟩:=aK hP0 hu;have hqw:=HY.o.size;have⟨q,hq⟩:=aD y.heap.size;rw[<-hq]at HP0 hqw;have HQ:=au hq;clear hP0 hu hq;obtain e|⟨e,rfl⟩:=HB3.o
 all_goals
  go_upto_region 4 with fail
  go_region
  go_upto_region 5 with fail
  rw[<-HU.o,<-HQ.o];clear d1 d3 d4 d5 hay;go_wp2_with fail
  go_loopw [13,62] (λhv i wr=>∃j:Nat,∃hd:Bool,∃l:aY,hv=aw hd/\i=an ar j/\oZ w wr q s.least s d j hd l) (λ_ i _=>d.length-(intOf i).toNat)
  case atStart=>exact⟨0,_,_,rfl,rfl,HP0.o⟩
  case round=>
   obtain⟨j,hd,l,rfl,rfl,hP⟩:=hrel;have Y:=au hP;clear hP;by_cases Q:j<d.length
   .have C:=au Y.o.b
    have⟨rb,ro,rc,_,he,Z,hc⟩:=(HI.o.bH (ch C.o) (by simp)).cell (by decide) j Q;simp only[bG,bK]at he;obtain⟨rfl,rfl⟩:=he;have r0:=(hc 0 (an ar (d.getD j ()).1) (by decide) (by rw[AJ d j 0 Q (by decide)];rfl)).1;have r1:=(hc 1 (aA (d.getD j ()).2) (by decide) (by rw[AJ d j 1 Q (by decide)];rfl)).1;simp only[bM]at r0;have s0:=(f.o.below C.o).2 0 _ rfl;have sb:=(f.o.below C.o).1;rw[<-HS.o]at s0;simp only[bM]at s0;have I:=Y.o.c;have q1:(0:Int)<=(j:Int):=by omega
    have q2:(j:Int)<(d.length:Int):=by omega
    have⟨J,M⟩:=aK (λhb=>Y.o.bad Q hb) (λ(z:ae) hb hc g=>Y.o.next (y:=z) Q hb hc g);have⟨x,hx⟩:=aD (d.getD j ());rw[<-hx]at r0 r1 J M;obtain⟨P,x1⟩:=x;obtain⟨l0,l1⟩:=l;simp only at r0 r1 I J M;have⟨u2,hu2⟩:=aD (wr.alloc (aB #[P,aA x1] 83 (0,0)));have⟨h1,hg,hl⟩:=dt hu2;have T:=az I;have hq2:=hg.at I (by simp);have⟨t0,t1⟩:=dk h1;have⟨v0,v1⟩:=dk hq2;have w0:=(hg.aJ.cell (p:=⟨G,H+k*7,none⟩) sb).trans s0;have sb2:=bP sb hg.size;have hqu:=bP T hg.size;have hrl2:=bP Z hg.size;have⟨F,Wl,U⟩:=aX (C.o.trans (hg.aJ.mono C.o.size)) hq2 hu2;have hfin:∀z,ai u2 u2 z->((hd&& !cR (l0,l1) (P,x1))||decide (P<s.least))=false->oZ w ((z.setCell ⟨q,0,none⟩ P).setCell ⟨q,1,none⟩ (aA x1)) q s.least s d (j+1) true (P,x1):=λz g A=>by
     have hzq:z.heap[q]? =_:=(ch g).at hq2 (by simp);refine M.o _ A ?_ ?_
     .have g1:=aE (i:=0) hzq P
      have g2:=aE (i:=1) g1 (aA x1);simpa using g2
     .refine(F.o.trans (g.mono F.o.size)).trans (aQ.below (((aQ.refl [q] z).setCell _ (by simp) _).setCell _ (by simp) _) (by simpa using hqw) ?_)
      exact bD F.o.size g.size
    have ke:=au hfin;have⟨qx,hqx⟩:=aD wr.heap.size;rw[<-hqx]at t0 t1 hl;have V:=au hqx;clear hqx hc hx hu2 h1 hg I hq2 hfin;cases hd
    .by_cases O:P<s.least
     .have e1:=decide_eq_true O
      have W:=au (J.o (by simp[O]));clear e1;go_upto_region 8 with fail
      rw[<-U.o,<-V.o];go_wp2_with fail
      go_quiet (fail);have HX:=au (F.o.trans ((bo u2 nq).aJ.mono F.o.size));go_wp2;go_ret;exact mW.no W.o rfl HX.o
     .have A:=au (λz g=>ke.o z g (by simp[O]))
      go_upto_region 8 with fail
      rw[<-U.o,<-V.o];go_wp2_with fail
      go_quiet (fail);have g:=(bo u2 nq).aJ;have z0:=(g.cell (p:=⟨qx,0,none⟩) hl).trans t0;have z1:=(g.cell (p:=⟨qx,1,none⟩) hl).trans t1;have zq:=(ch g).at Wl.o (by simp);have HF:=au (A.o _ g);have zl:=bP hqu g.size;generalize World.drewN u2 nq=z at*;have⟨y0,y1⟩:=dk zq;have f0:=bB zq 0;have f1:=bB zq 1;clear g zq t0 t1 v0 v1 w0;go_wp2;go_roundw
      case rel=>exact⟨j+1,_,_,rfl,by simp,HF.o⟩
      case measure=>simp[intOf];omega
    .have FM:=au (show∀y,aj prog 167 #[aG #[l0,aA l1],aG #[P,aA x1]] y λe w'=>e=ax (aw (cR (l0,l1) (P,x1)))/\ai y y w' fromλy=>oT l0 P l1 x1 y)
     generalize cR (l0,l1) (P,x1)=bb at*;cases bb
     .have W:=au (J.o (by simp))
      go_upto_region 8 with fail
      rw[<-U.o,<-V.o];refine cD (by kernel_rfl) (by kernel_rfl) ?_
      repeat (go_big_quiet_step (first|(go_at_call 167;exact cH (FM.o _))|fail))
      refine eV ?_;rintro _ ⟨yy,rfl⟩;have g:=bX u2 yy;have HX:=au (F.o.trans (g.mono F.o.size));clear g;go_wp2;go_ret;exact mW.no W.o rfl HX.o
     .by_cases O:P<s.least
      .have W:=au (J.o (by simp[O]))
       go_upto_region 8 with fail
       rw[<-U.o,<-V.o];refine cD (by kernel_rfl) (by kernel_rfl) ?_
       repeat (go_big_quiet_step (first|(go_at_call 167;exact cH (FM.o _))|fail))
       refine eV ?_;rintro _ ⟨yy,rfl⟩;have g:=bX u2 yy;have HX:=au (F.o.trans (g.mono F.o.size));clear g;go_wp2;go_ret;exact mW.no W.o rfl HX.o
      .have A:=au (λz g=>ke.o z g (by simp[O]))
       go_upto_region 8 with fail
       rw[<-U.o,<-V.o];refine cD (by kernel_rfl) (by kernel_rfl) ?_
       repeat (go_big_quiet_step (first|(go_at_call 167;exact cH (FM.o _))|fail))
       refine eV ?_;rintro _ ⟨yy,rfl⟩;have g:=bX u2 yy;have z0:=(g.cell (p:=⟨qx,0,none⟩) hl).trans t0;have z1:=(g.cell (p:=⟨qx,1,none⟩) hl).trans t1;have zq:=(ch g).at Wl.o (by simp);have HF:=au (A.o _ g);have zl:=bP hqu g.size;generalize ext u2 yy=z at*;have⟨y0,y1⟩:=dk zq;have f0:=bB zq 0;have f1:=bB zq 1;clear g zq t0 t1 v0 v1 w0;go_wp2;go_roundw
       case rel=>exact⟨j+1,_,_,rfl,by simp,HF.o⟩
       case measure=>simp[intOf];omega
   .obtain rfl:j=d.length:=by have:=Y.o.n;omega
    have I:=Y.o.c;have C:=au Y.o.b;have⟨v0,v1⟩:=dk I;have T:=az I;have HC:=au (O3 (HI.o.bH ((ch C.o).drew) (by simp)) (by omega));obtain⟨l0,l1⟩:=l;simp only at v0 v1;clear I;go_upto_region 12 with fail
    go_region_law (first
     |(refine pI (x:=.tmp 89) (t:=66) (by rfl) 76 func76 (by kernel_rfl) (by kernel_rfl) (by rfl) _ (by kernel_rfl) HC.o ?_;rintro e z ⟨ca,cc,rfl,ho,hb⟩;refine⟨_,rfl,?_⟩;have HO:=au ho;have y0:=(hb.cell (p:=⟨q,0,none⟩) T).trans v0;have y1:=(hb.cell (p:=⟨q,1,none⟩) T).trans v1;have lq:=bP T hb.size;have m:=(C.o.drew).trans (hb.mono C.o.size);have HZ:=au m;have z1:=(m.cell (p:=⟨G,H+k*7+1,none⟩) f.o.1).trans C1.o;have z2:=(m.cell (p:=⟨G,H+k*7+2,none⟩) f.o.1).trans (f.o.2 2 _ rfl);have z3:=(m.cell (p:=⟨G,H+k*7+3,none⟩) f.o.1).trans (f.o.2 3 _ rfl);have z4:=(m.cell (p:=⟨G,H+k*7+4,none⟩) f.o.1).trans (f.o.2 4 _ rfl);have z5:=(m.cell (p:=⟨G,H+k*7+5,none⟩) f.o.1).trans (f.o.2 5 _ rfl);have z6:=(m.cell (p:=⟨G,H+k*7+6,none⟩) f.o.1).trans (f.o.2 6 _ rfl);have f1:=(m.frozen (p:=⟨G,H+k*7+1,none⟩) f.o.1).trans (K.o 1 (by decide));have f2:=(m.frozen (p:=⟨G,H+k*7+2,none⟩) f.o.1).trans (K.o 2 (by decide));have f3:=(m.frozen (p:=⟨G,H+k*7+3,none⟩) f.o.1).trans (K.o 3 (by decide));have f4:=(m.frozen (p:=⟨G,H+k*7+4,none⟩) f.o.1).trans (K.o 4 (by decide));have f5:=(m.frozen (p:=⟨G,H+k*7+5,none⟩) f.o.1).trans (K.o 5 (by decide));have f6:=(m.frozen (p:=⟨G,H+k*7+6,none⟩) f.o.1).trans (K.o 6 (by decide));have lz:=bP f.o.1 m.size;clear ho hb m)
     |fail)
    all_goals
     have⟨HKK,MD⟩:=aK (HK.o z _ _ _ _ HZ.o HO.o (C.o.drew).size Y.o.done.2.1 Y.o.done.2.2) Y.o.done.1;go_wp2_with fail
     rw[Xv];go_ret;exact mW.yes MD.o rfl HKK.o
def sO(l:List aY):Bool:=(l.all λx=>nF x.1 x.2)&&kL cR l
def nJ(r:lr):Bool:=sO r.items&&(decide (r.items.length<=5)&&(kh r.slot r.aR&&(me [r.query,r.seq,r.aW]&&jb r.worker)))
def M5(l:List aY):sO l=true↔∀k,k<l.length->nF (l.getD k ()).1 (l.getD k ()).2=true/\(0<k->cR (l.getD (k-1) ()) (l.getD k ())=true):=by
 unfold sO;rw[cV,oS,j_];constructor
 .rintro⟨b,c⟩ k a
  refine⟨b k a,λe=> ?_⟩;have:=c (k-1) (by omega)
  rwa [show k-1+1=k by omega]at this
 .intro h
  exact⟨λk a=>(h k a).1,λm d=>by simpa using(h (m+1) d).2 (by omega)⟩
def T7{w:ae}{g:Option Nat}{v:ah}{l:List aY}(h:Seg w 83 2 g v (dT l) l.length):aT rK 2 w v l:=by
 obtain⟨a,c,rfl,o,p⟩:=h.len;refine⟨a,c,rfl,p,o,λi e=> ?_⟩;have⟨b,d,f,_,k,q,r⟩:=h.cell (by decide) i e;simp only[bG,bK]at k;obtain⟨rfl,rfl⟩:=k;refine⟨b,d,rfl,q,λj u m=> ?_⟩;have n:j<2:=(List.getElem?_eq_some_iff.1 m).1;exact(r j u n ((AJ l i j e n).trans m)).1
def ad1(r:lr)(iv:ah)(w:ae)(hi:aT rK 2 w iv r.items)(hs:∀x∈r.items,x.2.size<=maxLen):aj prog 149 #[aG #[r.slot,r.query,r.aR,r.seq,r.worker,r.aW,iv,aw r.fin]] w λe w'=>e=ax (aw (nJ r))/\ai w w w':=by
 obtain⟨slot,f,g,B,d,l,c,fin⟩:=r;simp only at hi hs;have⟨HS,HR⟩:=aK hs hi;obtain⟨a,cap,rfl,hm,hcn,_⟩:=hi;unfold maxLen at hm;have⟨u,hu⟩:=aD (w.alloc (aB #[slot,f,g,B,d,l,av a c.length cap,aw fin] 246 (0,0)));have⟨n,hg,hl⟩:=dt hu;have⟨HP,HN,HW⟩:=aX (λy=>FC slot g y) (λy=>adr f B l y) (λy=>Aj d y);have q:∀(y:ae),ai u u y->∀i v,([an ar slot,an ar f,an ar g,an ar B,an ar d,an ar l,av a c.length cap,aw fin]:List ah)[i]? =some v->y.cell? ⟨w,i,none⟩=some v:=λy hy i v I=>(hy.cell (p:=⟨w,i,none⟩) hl).trans (by simpa[World.cell?,n]using I)
 have⟨H,HU,G⟩:=aX q hu hg.aJ;unfold nJ;simp only;have⟨Y,J⟩:=aD (sO c);have HIB:=au (show Y=true↔∀k,k<c.length->nF (c.getD k ()).1 (c.getD k ()).2=true/\(0<k->cR (c.getD (k-1) ()) (c.getD k ())=true)by rw[J];exact M5 c);rw[<-J];generalize kh slot g=pl at*;generalize me [f,B,l]=ins at*;generalize jb d=wk at*;have c6:=q u (aO _ _) 6 _ rfl;clear hs hu n hg J q;go_in;go_upto_region 1 with fail
 rw[<-HU.o];go_wp2_with fail
 go_loopw [8] (λi wr=>∃k:Nat,k<=c.length/\i=an ar k/\(∀j,j<k->nF (c.getD j ()).1 (c.getD j ()).2=true/\(0<j->cR (c.getD (j-1) ()) (c.getD j ())=true))/\ai u u wr) (λi _=>c.length-(intOf i).toNat)
 case atStart=>exact⟨0,bz _,rfl,λj hj=>by omega,aO _ _⟩
 case round=>
  obtain⟨k,hk,rfl,ha,n⟩:=hrel;have⟨HA,HB⟩:=aK ha n;by_cases K:k<c.length
  .have L:=G.o.trans (n.mono G.o.size)
   obtain⟨b,s,rfl,M,N⟩:=(HR.o.below L).slot k K;have C:=N 0 _ rfl;have O:=N 1 _ rfl;simp only[bM]at C;have E:0<k->∀i v,(rK (c.getD (k-1) ()))[i]? =some v->wr.cell? ⟨b,s+(k-1)*2+i,none⟩=some v:=λZ i v I=>by
    have⟨b',off',hab,_,hcl'⟩:=(HR.o.below L).slot (k-1) (by omega);simp only[bA,dr,et]at hab;obtain⟨rfl,rfl⟩:=hab;exact hcl' i v I
   have F:=HS.o _ (bh c k K);have⟨x,hx⟩:=aD (c.getD k ());have⟨y,hy⟩:=aD (c.getD (k-1) ());rw[<-hx]at C O F;rw[<-hy]at E;have⟨t,HY⟩:=aK hx hy;obtain⟨P,Q⟩:=x;obtain⟨y0,y1⟩:=y;simp only at C O F;have⟨v,I⟩:=aD (wr.alloc (aB #[P,aA Q] 83 (0,0)));have⟨g1,T,gl⟩:=dt I;have⟨d0,d1⟩:=dk g1;have d6:=H.o v (HB.o.trans (T.aJ.mono HB.o.size)) 6 _ rfl;have hlv:=bP hl (bD HB.o.size T.size);have hpv:0<k->v.cell? ⟨b,s+(k-1)*2,none⟩=y0/\v.cell? ⟨b,s+(k-1)*2+1,none⟩=some (aA y1)/\b<v:=λZ=>⟨(T.aJ.cell (p:=⟨b,s+(k-1)*2,none⟩) M).trans (E Z 0 _ rfl),(T.aJ.cell (p:=⟨b,s+(k-1)*2+1,none⟩) M).trans (E Z 1 _ rfl),bP M T.size⟩
   have⟨HPV,HV,m,HI,HL⟩:=iI hpv I (HB.o.trans (T.aJ.mono HB.o.size)) (λz=>Zd P Q z F) (λz=>oT y0 P y1 Q z);have A:Y=true->nF P Q=true/\(0<k->cR (y0,y1) (P,Q)=true):=λe=>by
    have:=HIB.o.1 e k K;rw[<-t.o,<-HY.o]at this;exact this
   have HG:=au A;have⟨it,U⟩:=aD (nF P Q);have⟨ls,V⟩:=aD (cR (y0,y1) (P,Q));rw[<-U]at HI HG;rw[<-V]at HL HG;have⟨HIT,FM⟩:=aK U V;have q1:(0:Int)<=(k:Int):=by omega
   have q2:(k:Int)<(c.length:Int):=by omega
   clear ha n N E hx hy I g1 T hpv A U V L F;cases it
   .have W:Y=false:=by
     cases e:Y
     .rfl
     .have:=HG.o e;simp at this
    subst W;go_upto_region 4 with fail
    rw[<-HV.o];refine cD (by kernel_rfl) (by kernel_rfl) ?_
    repeat (go_big_quiet_step (first|(go_at_call 170;exact cH (HI.o _))|fail))
    refine eV ?_;rintro _ ⟨z,rfl⟩;have t:=au (G.o.trans ((m.o.trans ((bX v z).mono m.o.size)).mono G.o.size));go_wp2;go_ret;exact⟨rfl,t.o⟩
   .by_cases Z:0<k
    .have⟨p0,p1,hbv⟩:=HPV.o Z
     have q6:IntKind.i64.wrap ((k:Int)-1)=(k:Int)-1:=IntWalk.i64_in _ (by omega);have q7:((k:Int)-1).toNat=k-1:=by omega
     cases ls
     .have W:Y=false:=by
       cases e:Y
       .rfl
       .have:=HG.o e;simp[Z]at this
      subst W;go_upto_region 4 with fail
      rw[<-HV.o];refine cD (by kernel_rfl) (by kernel_rfl) ?_
      repeat (go_big_quiet_step (first|(go_at_call 170;exact cH (HI.o _))|(go_at_call 167;exact cH (HL.o _))|fail))
      refine eV ?_;rintro _ ⟨z,rfl⟩;have t:=au (G.o.trans ((m.o.trans ((bX v z).mono m.o.size)).mono G.o.size));go_wp2;go_ret;exact⟨rfl,t.o⟩
     .go_upto_region 4 with fail
      rw[<-HV.o];refine cD (by kernel_rfl) (by kernel_rfl) ?_
      repeat (go_big_quiet_step (first|(go_at_call 170;exact cH (HI.o _))|(go_at_call 167;exact cH (HL.o _))|fail))
      refine eV ?_;rintro _ ⟨z,rfl⟩;have X:=au (m.o.trans ((bX v z).mono m.o.size));clear q6 q7;go_wp2;go_roundw
      case rel=>exact⟨k+1,by omega,by simp,λj hj=>by
       by_cases e:j=k
       .rw[e,<-t.o,<-HY.o];exact⟨HIT.o.symm,λ_=>FM.o.symm⟩
       .exact HA.o j (by omega),X.o⟩
      case measure=>simp[intOf];omega
    .obtain rfl:k=0:=by omega
     simp only[Nat.zero_mul,bM,eJ]at C O;go_upto_region 4 with fail
     rw[<-HV.o];refine cD (by kernel_rfl) (by kernel_rfl) ?_
     repeat (go_big_quiet_step (first|(go_at_call 170;exact cH (HI.o _))|fail))
     refine eV ?_;rintro _ ⟨z,rfl⟩;have X:=au (m.o.trans ((bX v z).mono m.o.size));go_wp2;go_roundw
     case rel=>exact⟨1,by omega,by simp,λj hj=>by
      obtain rfl:j=0:=by omega
      rw[<-t.o];exact⟨HIT.o.symm,λh=>bL h (by omega)⟩,X.o⟩
     case measure=>simp[intOf];omega
  .obtain rfl:k=c.length:=by omega
   have hzt:=HIB.o.2 λj hj=>HA.o j hj
   subst hzt;have d0:=H.o wr n 0 _ rfl;have d1:=H.o wr n 1 _ rfl;have d2:=H.o wr n 2 _ rfl;have d3:=H.o wr n 3 _ rfl;have d4:=H.o wr n 4 _ rfl;have d5:=H.o wr n 5 _ rfl;have d6:=H.o wr n 6 _ rfl;have Xx:=bP hl n.size;have t:=au (G.o.trans (n.mono G.o.size));clear ha n c6;by_cases h5:c.length<=5
   .have h5':(c.length:Int)<=5:=by omega
    have H5:=au (decide_eq_true h5);clear h5;cases pl
    rotate_left
    cases ins
    rotate_left
    all_goals
     go_wp2_with (first|(go_at_call 150;refine aH (HP.o _) ?_)|(go_at_call 147;refine aH (HN.o _) ?_)|(go_at_call 146;refine aH (HW.o _) ?_)|fail);go_ret;exact⟨cA (by rw[H5.o];rfl),by first|exact t.o|exact ef t.o _⟩
   .have h5':¬(c.length:Int)<=5:=by omega
    have H5:=au (decide_eq_false h5);clear h5;go_wp2_with fail
    go_ret;exact⟨cA (by rw[H5.o];rfl),t.o⟩
def cd.may:cd->Bool
 | .eu a b=>jb a&&me [b]
 | .grant a b c=>jb a&&me [b,c]
 | .ask a=>nG a
 | .dj r=>nJ r
 | .stop a b=>kh a 0&&me [b]
def cd.rd(w:ae)(iv:ah):cd->Prop
 | .ask a=>a.text.size<=maxLen/\a.word.size<=maxLen
 | .dj r=>aT rK 2 w iv r.items/\∀x∈r.items,x.2.size<=maxLen
 |_=>True
def JJ(m:cd)(iv:ah)(w:ae)(G:∃a n c,iv=av a n c)(d:m.rd w iv):aj prog 115 #[m.val iv] w λe w'=>e=ax (aw m.may)/\ai w w w':=by
 cases m with
 |eu a b=>
  unfold cd.val cd.may;simp only;have⟨j,l⟩:=aK (λy=>Aj a y) (λy n p=>Ze b y n p);generalize jb a=x at*;generalize me [b]=z at*;clear d;cases x
  all_goals
   go_in;go_wp2_with (first|(go_at_call 146;refine aH (j.o _) ?_)|(go_at_call 147;refine aH (l.o _ _ (by simp)) ?_)|fail);go_ret;exact⟨rfl,by repeat (first|exact aO _ _|refine ef ?_ _)⟩
 |grant a b c=>
  unfold cd.val cd.may;simp only;have⟨j,l⟩:=aK (λy=>Aj a y) (λy n p=>ads b c y n p);generalize jb a=x at*;generalize me [b,c]=z at*;clear d;cases x
  all_goals
   go_in;go_wp2_with (first|(go_at_call 146;refine aH (j.o _) ?_)|(go_at_call 147;refine aH (l.o _ _ (by simp)) ?_)|fail);go_ret;exact⟨rfl,by repeat (first|exact aO _ _|refine ef ?_ _)⟩
 |ask a=>
  have q:=au (λy=>adt a y d.1 d.2);unfold cd.val cd.may;simp only;generalize nG a=x at*;obtain⟨slot,f,g,v,h,text,k,A,first,E,F⟩:=a;simp only at q;clear d;go_in;go_wp2_with fail
  refine aN (q.o _) ?_;intro y i;have B:=au (Below.trans (show ai w w _ by repeat (first|exact aO _ _|refine ef ?_ _)) (i.mono (by simp)));clear i;go_wp2;go_ret;exact⟨rfl,B.o⟩
 |dj r=>
  obtain⟨s,t⟩:=d;have q:=au (λ(y:ae) (i:ai w w y)=>ad1 r iv y (s.below i) t);obtain⟨I,n,c,rfl⟩:=G;unfold cd.val cd.may;simp only;generalize nJ r=x at*;obtain⟨slot,f,g,v,u,h,C,H⟩:=r;simp only at q;clear s t;go_in;go_wp2_with fail
  refine aN (q.o _ ?_) ?_
  .repeat (first|exact aO _ _|refine ef ?_ _)
  intro y i;have B:=au (Below.trans (show ai w w _ by repeat (first|exact aO _ _|refine ef ?_ _)) (i.mono (by simp)));clear i;go_wp2;go_ret;exact⟨rfl,B.o⟩
 |stop a b=>
  unfold cd.val cd.may;simp only;have⟨j,l⟩:=aK (λy=>FC a 0 y) (λy n p=>Ze b y n p);generalize kh a 0=x at*;generalize me [b]=z at*;clear d;cases x
  all_goals
   go_in;go_wp2_with (first|(go_at_call 150;refine aH (j.o _) ?_)|(go_at_call 147;refine aH (l.o _ _ (by simp)) ?_)|fail);go_ret;exact⟨rfl,by repeat (first|exact aO _ _|refine ef ?_ _)⟩
def jO(B:Nat)(w:ae)(p:Nat)(bs:List Int):Prop:=∃g v,w.heap[p]? =some (aB #[v] 233 (0,0))/\B<=p/\(∀b,g=some b->B<=b/\b≠p)/\Seg w 5 1 g v (lJ bs) bs.length
variable{B:Nat}
def jO.lt{bs:List Int}(h:jO B w p bs):p<w:=by
 obtain⟨_,_,a,_⟩:=h;exact az a
def jO.below{w':ae}{bs:List Int}(h:jO B w p bs)(c:ai w w w'):jO B w' p bs:=by
 obtain⟨g,v,d,a,e,f⟩:=h;have b:=ch c;exact⟨g,v,b.at d (by simp),a,e,f.bH b (by simp)⟩
def jO.put{y:ae}(c:B<=p){j v:ah}{bs:List Int}(h:w.heap[p]? =some (aB #[j] 233 (0,0)))(e:ai w w y)(k:dI w y v bs):
 jO B (y.setCell ⟨p,0,none⟩ v) p bs/\aQ [p] w (y.setCell ⟨p,0,none⟩ v):=by
 have l:=az h;have m:y.heap[p]? =_:=(ch e).at h (by simp);have f:=(aQ.refl [p] y).setCell ⟨p,0,none⟩ (by simp) v;have⟨g,n,o⟩:=Own.Cs k;have a:∀b,g=some b->B<=b/\b≠p:=λb d=>by have:=o b d;omega
 exact⟨⟨g,v,by simpa using aE (i:=0) m v,c,a,n.bH f (λb d=>by simpa using(a b d).2)⟩,((ch e).mono (by simp)).trans f⟩
def vj{bs:List Int}(h:jO B w p bs)(q:bs.length<=100000)(n:Int)(r:0<=n)(s:n<9223372036854775808):aj prog 119 #[p,(n:Int)] w λe w'=>e=ax (aM #[])/\jO B w' p (bs++dA n 1)/\aQ [p] w w':=by
 obtain⟨g,v,b,c,x,d⟩:=h;have⟨j,k⟩:=aK (CE v bs n 1 w (gC d) q (by decide) (by decide) r s) b;have t:=aF b 0 rfl;obtain⟨z,A,rfl,_⟩:=Seg.len d;clear b d;have⟨X,l⟩:=aD (bs++dA n 1);rw[<-l]at j⊢;clear l;go_in;go_wp2_with fail
 refine j.m ?_;rintro e y ⟨C,rfl,f,i⟩;obtain⟨E,F,rfl,_⟩:=Own.len f;have u:=au (jO.put c k.o i f);have a:=(ch i).at k.o (by simp);have G:=aF a 0 rfl;have H:=bB a 0;clear f i a t;go_wp2
 go_end0
 exact⟨rfl,u.o⟩
def T8{bs:List Int}(h:jO B w p bs)(d:bs.length<=100000)(b:Bool):aj prog 120 #[p,aw b] w λe w'=>e=ax (aM #[])/\jO B w' p (bs++dA (if b then 1 else 0) 1)/\aQ [p] w w':=by
 cases b
 .have H:=au (vj h d 0 (by decide) (by decide))
  go_in;go_wp2_with fail
  refine aN H.o ?_;intro y a;have c:=au a;go_wp2
  go_end0
  exact⟨rfl,c.o⟩
 .have H:=au (vj h d 1 (by decide) (by decide))
  go_in;go_wp2_with fail
  refine aN H.o ?_;intro y a;have c:=au a;go_wp2
  go_end0
  exact⟨rfl,c.o⟩
theorem aT.bH{d:Type}[Inhabited d]{f:d->List ah}{sz:Nat}{w':ae}{v:ah}{xs:List d}{S:List Nat}(h:aT f sz w v xs)(k:aQ S w w')(m:∀a n c,v=av (some a) n c->a.block∉S):aT f sz w' v xs:=by
 obtain⟨a,e,rfl,o,q,r⟩:=h;refine⟨a,e,rfl,o,q,λi s=> ?_⟩;obtain⟨b,g,rfl,l,t⟩:=r i s;exact⟨b,g,rfl,bP l k.size,λj u x=>(cU (k.block b l (m _ _ _ rfl))).trans (t j u x)⟩
def ad2{bs:List Int}(h:jO B w p bs)(hb:bs.length<=10000){v:ah}{xs:List Int}(U:aT dX 1 w v xs)(V:∀a n c,v=av (some a) n c->a.block∉[p])(hn:xs.length<=100)(W:∀x∈xs,0<=x/\x<9223372036854775808):
 aj prog 117 #[p,v] w λe w'=>e=ax (aM #[])/\jO B w' p (bs++xs.flatMap λx=>dA x 4)/\aQ [p] w w':=by
 have HR:=au (λ(y:ae) (j:aQ [p] w y)=>U.bH j V);obtain⟨a,cap,rfl,hm,hcn,_⟩:=U;have⟨F,hF⟩:= @aD (Nat->List Int) (λk=>bs++(xs.take k).flatMap λx=>dA x 4);have⟨R,E⟩:=aD (bs++xs.flatMap λx=>dA x 4);have G:=au (show F xs.length=R by rw[hF,E];simp only;rw[fR]);have H:=au (show∀k,k<xs.length->F (k+1)=F k++dA (xs.getD k ()) 4 fromλk A=>by
  rw[hF];simp only;rw[List.take_add_one,fQ,<-h_];congr 1;simp[aU,A])
 have I:=au (show∀k,k<=xs.length->(F k).length<=100000 fromλk A=>by
  rw[hF];have:∀l:List Int,(l.flatMap λx=>dA x 4).length=l.length*4:=λl=>by
   induction l with
   |nil=>rfl
   |cons a l ih=>rw[eI,bF,ih,cG];simp[dA];omega
  simp only[bF,this,dw];omega)
 have Y:jO B w p (F 0):=by
  have e:F 0=bs:=by rw[hF];simp
  rw[e];exact h
 have⟨HW,HZ⟩:=aK Y W;rw[<-E];clear hF E h Y W V;go_in;go_wp2_with fail
 go_loopw [8] (λi wr=>∃k:Nat,i=an ar k/\k<=xs.length/\jO B wr p (F k)/\aQ [p] w wr) (λi _=>xs.length-(intOf i).toNat)
 case atStart=>exact⟨0,rfl,bz _,HW.o,aQ.refl _ _⟩
 case round=>
  obtain⟨k,rfl,A,C,q⟩:=hrel;by_cases d:k<xs.length
  .obtain⟨b,off,rfl,hbl,r⟩:=(HR.o wr q).slot k d
   have s:=r 0 _ rfl;simp only[bM,Nat.mul_one]at s;obtain⟨g,v,J,K,h2,L⟩:=C;have⟨x0,x1⟩:=HZ.o _ (bh xs k d);have M:=au (CE v (F k) (xs.getD k ()) 4 wr (gC L) (I.o k A) (by decide) (by decide) x0 x1);rw[<-H.o k d]at M;have Z:=au J;have c0:=aF J 0 rfl;obtain⟨va,vc,rfl,_⟩:=Seg.len L;have N:=au q;have q1:(0:Int)<=(k:Int):=by omega
   have q2:(k:Int)<(xs.length:Int):=by omega
   generalize xs.getD k ()=x at*;have⟨X,O⟩:=aD (F (k+1));rw[<-O]at M;have HX:=au O;clear J L r q O;go_wp2_with fail
   refine M.m ?_;rintro e y ⟨v',rfl,P,j⟩;obtain⟨a2,c2,rfl,_⟩:=Own.len P;have⟨t,u⟩:=jO.put K Z.o j P;have⟨Q,T⟩:=aK t (N.o.trans u);have f:=(ch j).at Z.o (by simp);have c1:=aF f 0 rfl;have f1:=bB f 0;clear P j f c0 t u s;go_wp2;go_roundw
   case rel=>exact⟨k+1,by simp,by omega,by rw[<-HX.o];exact Q.o,T.o⟩
   case measure=>simp[intOf];omega
  .have z:F k=R:=by
    obtain rfl:k=xs.length:=by omega
    exact G.o
   rw[z]at C;have⟨HI,N⟩:=aK C q;clear C q z;go_wp2
   go_end0
   exact⟨rfl,HI.o,N.o⟩
def T9{bs:List Int}(h:jO B w p bs)(K:bs.length<=10000)(d:Int)(s:ByteArray)(L:0<=d)(M:d<9223372036854775808)(N:s.size<=60000):aj prog 121 #[p,aG #[(d:Int),aA s]] w λe w'=>e=ax (aM #[])/\jO B w' p (bs++dA d 1++dA s.size 2++qU s)/\aQ [p] w w':=by
 have⟨u,i⟩:=aD (w.alloc (aB #[(d:Int),aA s] 83 (0,0)));have⟨j,k,gl⟩:=dt i;have H:=au (vj (h.below k.aJ) (by omega) d L M);have O:=h.lt;have l:=aF j 0 rfl;have⟨P,m,Q⟩:=aX i j k;have⟨X,n⟩:=aD (bs++dA d 1);have T:X.length<=10001:=by rw[n];simp[dA];omega
 rw[<-n]at H⊢;have⟨Y,q⟩:=aD (X++dA s.size 2++qU s);rw[<-q];have U:=au q;clear i j k n h K q;go_in;go_upto_region 1 with fail
 rw[<-P.o];go_wp2_with fail
 refine aN H.o ?_;rintro y ⟨⟨g,v,r,t,h2,x⟩,A⟩;have c:y.heap[w.heap.size]? =_:=A.at m.o (by simp;omega);have⟨I,J,V⟩:=aX (λ(z:ae) (f:aQ ([]:List Nat) y z)=>Jq v X s z (gC (x.bH f (by simp))) (by omega) N) r (((Q.o.mono (by simp)).trans A:aQ [p] w y));have c1:=aF r 0 rfl;have c2:=aF c 1 rfl;obtain⟨W,Z,rfl,_⟩:=Seg.len x;rw[<-U.o]at I;clear r x A c l;go_upto_region 2 with fail
 go_region_law (first
  |(refine dm (by rfl) 118 func118 (by kernel_rfl) (by kernel_rfl) (by rfl) _ (by kernel_rfl) (I.o _ (by first|exact aQ.refl _ _|exact(aQ.refl _ _).drew)) ?_;rintro e z ⟨v',rfl,C,f⟩;refine⟨_,rfl,?_⟩;obtain⟨a2,e2,rfl,_⟩:=Own.len C;have b:ai y y z:=(by first|exact f|exact((aO _ _).drew).trans f);have E:=jO.put t J.o b C;have F:=au E.1;have G:=au (V.o.trans E.2);have a:=(ch b).at J.o (by simp);have z1:z.cell? p=some (av W X.length Z):=(aF a _ rfl);have zf:z.frozen? ⟨p,0,none⟩=false:=(bB a _);have zl:=az a;clear f b C E a)
  |fail)
 all_goals
  go_wp2_with fail
  go_end0
  exact⟨rfl,F.o,G.o⟩
structure dP where
 n:gO
 ev:ah
 eb:Option Nat
instance:Inhabited dP:=⟨⟨default,.slice none 0 0,none⟩⟩
def rO(es:List eY):List ah:=es.flatMap λe=> [.int .i32 e.1,an ar e.2]
def dP.cells(m:dP):List ah:=[aw m.n.fin,m.ev]
def xM(ms:List dP):List ah:=ms.flatMap dP.cells
def dP.row(w:ae)(m:dP):Prop:=Seg w 303 2 m.eb m.ev (rO m.n.bO) m.n.bO.length
structure jm(w:ae)(p:Nat)(g:Option Nat)(v:ah)(ms:List dP):Prop where
 c:w.heap[p]? =some (aB #[v] 306 (0,0))
 s:Seg w 308 2 g v (xM ms) ms.length
 r:∀m∈ms,m.row w
 d1:∀b,g=some b->b≠p
 d2:∀m∈ms,∀x,m.eb=some x->x≠p/\g≠some x
def pO(p:Nat)(g:Option Nat)(ms:List dP):List Nat:=p::(g.toList++ms.filterMap dP.eb)
def jm.kept{v:ah}{ms:List dP}(h:jm w p g v ms)(d:Kept (pO p g ms) w w'):jm w' p g v ms:=
 ⟨(d p (by simp[pO])).trans h.c,h.s.kept (d.mono λx a=>by simp[pO]at a⊢;simp[a]),λm f=>(show Seg w' 303 2 m.eb m.ev _ _ from(show Seg w 303 2 m.eb m.ev _ _ from h.r m f).kept (d.mono λx a=>by
  have e:m.eb=some x:=by simpa using a
  simp only[pO,bQ,dJ,mF];exact .inr (.inr ⟨m,f,e⟩))),h.d1,h.d2⟩
def jm.lt{v:ah}{ms:List dP}(h:jm w p g v ms):∀x∈pO p g ms,x<w:=by
 intro x a;simp only[pO,bQ,dJ,mF,eZ]at a;obtain rfl|a|⟨m,d,a⟩:=a
 .exact az h.c
 .exact h.s.lt x a
 .exact(show Seg w 303 2 m.eb m.ev _ _ from h.r m d).lt x a
variable{S:List Nat}
def jm.bH{v:ah}{ms:List dP}(h:jm w p g v ms)(a:aQ S w w')(c:∀x∈pO p g ms,x∉S):jm w' p g v ms:=h.kept (Kept.dC a h.lt c)
def jm.eb{v:ah}{ms:List dP}(h:jm w p g v ms){m:dP}(a:m∈ms){x:Nat}(c:m.eb=some x):x<w:=(show Seg w 303 2 m.eb m.ev _ _ from h.r m a).lt x c
def JK(ms:List dP)(m:dP):xM (ms++ [m])=xM ms++m.cells:=by simp[xM]
def Xy(ms:List dP):(xM ms).length=ms.length*2:=by
 induction ms with
 |nil=>rfl
 |cons a l c=>
  have e:xM (a::l)=a.cells++xM l:=by simp[xM]
  have:a.cells.length=2:=rfl;rw[e,bF,c,cG];omega
def T_(es:List eY)(e:eY):rO (es++ [e])=rO es++ [.int .i32 e.1,an ar e.2]:=by simp[rO]
def Xz(ms:List dP)(k:Nat)(c:k<ms.length)(m:dP):xM (ms.set k m)=((xM ms).set (k*2) (aw m.n.fin)).set (k*2+1) m.ev:=by
 induction ms generalizing k with
 |nil=>simp at c
 |cons a l h=>
  have d:a.cells.length=2:=rfl;cases k with
  |zero=>
   simp only[cC,xM,eI,Nat.zero_mul,eJ];rfl
  |succ k=>
   have:=h k (by simpa using c);simp only[ct,xM,eI]at this⊢;rw[this];have e:∀(L:List ah) (j:Nat) (u:ah),(a.cells++L).set ((k+1)*2+j) u=a.cells++L.set (k*2+j) u:=λL j u=>by
    rw[List.set_append_right _ _ (by rw[d];omega),d,show(k+1)*2+j-2=k*2+j by omega]
   have f:=e (List.flatMap dP.cells l) 0 (aw m.n.fin);simp only[bM]at f;rw[f,e]
def Ua:(prog.info? 308).map (λi=>(i.zero,i.size,i.bytes))=some (some (aG #[aw false,()]),2,32):=by kernel_rfl
def JL:(prog.info? 303).map (λi=>(i.zero,i.size,i.bytes))=some (some (aG #[.int .i32 0,an ar 0]),2,16):=by kernel_rfl
def Seg.edge{v:ah}{l:List eY}(h:Seg w 303 2 g v (rO l) l.length)(a b:Int)(m:l.length<=100000):
 ∃d e t g',(∀i,(Builtin.append_ #[271,271] i #[v,av (some ⟨w,0,none⟩) 1 1]).run prog (w.alloc (aB #[.int .i32 a,an ar b] 303 (0,0)))=.ok (av d (l.length+1) e) t)/\Seg t 303 2 g' (av d (l.length+1) e) (rO (l++ [(a,b)])) (l++ [(a,b)]).length/\aQ g.toList w t/\(g'=g∨∃b,g'=some b/\w.heap.size<=b):=by
 have⟨n,t,g',c,f,j,k⟩:=h.push 271 underlying271 JL rfl (by decide) [.int .i32 a,an ar b] rfl (by simp[Value.oneCell']) (by omega) (by decide);obtain⟨d,e,rfl,_⟩:=f.len;exact⟨d,e,t,g',c,by rw[T_,bF];exact f,j,k⟩
def Seg.node{v:ah}{l:List dP}(h:Seg w 308 2 g v (xM l) l.length)(m:dP)(i:m.ev.oneCell'=true)(q:l.length<=100000):
 ∃c d t g',(∀j,(Builtin.append_ #[304,304] j #[v,av (some ⟨w,0,none⟩) 1 1]).run prog (w.alloc (aB #[aw m.n.fin,m.ev] 308 (0,0)))=.ok (av c (l.length+1) d) t)/\Seg t 308 2 g' (av c (l.length+1) d) (xM (l++ [m])) (l++ [m]).length/\aQ g.toList w t/\(g'=g∨∃b,g'=some b/\w.heap.size<=b):=by
 have⟨r,t,g',a,e,k,o⟩:=h.push 304 underlying304 Ua rfl (by decide) [aw m.n.fin,m.ev] rfl (λu f=>by
  simp only[bQ,ez,or_false]at f;obtain rfl|rfl:=f
  .rfl
  .exact i) (by omega) (by decide)
 obtain⟨c,d,rfl,_⟩:=e.len;exact⟨c,d,t,g',a,by rw[JK,bF];exact e,k,o⟩
structure mh(w:ae)(q p b:Nat)(g:Option Nat)(v:ah)(ms:List dP)(keys:List er):Prop where
 bq:w.heap[q]? =some (aB #[p,.map (some b)] 330 (0,0))
 gr:jm w p g v ms
 mp:nB w b (O5 keys) keys.length
 o1:p<b
 o2:b<q
 o3:∀x,g=some x->q<x
 o4:∀m∈ms,∀x,m.eb=some x->q<x
 kl:ms.length=keys.length
variable{b:Nat}
def nB.bH{f:er->Option Int}{n:Nat}(h:nB w b f n)(a:aQ S w w')(c:b∉S):nB w' b f n:=h.same (a.block b h.lt c)
def sP(h:w.mapTurned w' b):aQ [b] w w':=by
 obtain⟨d,c,a,e,_,rfl⟩:=h;exact(aQ.refl [b] w).setBlock (by simp) _
def mh.bH{q:Nat}{v:ah}{ms:List dP}{a:List er}(h:mh w q p b g v ms a)(d:aQ S w w')(f:∀x∈S,q<x/\g≠some x/\∀m∈ms,m.eb≠some x):mh w' q p b g v ms a:=by
 have l:=h.o1;have n:=h.o2;refine⟨d.at h.bq (λe=>by have:=(f q e).1;omega),h.gr.bH d (λx c e=> ?_),h.mp.bH d (λe=>by have:=(f b e).1;omega),h.o1,h.o2,h.o3,h.o4,h.kl⟩;have⟨o,i,j⟩:=f x e;simp only[pO,bQ,dJ,mF,eZ]at c;obtain rfl|c|⟨m,k,c⟩:=c
 .omega
 .exact i c
 .exact j m k c
def JM{a:List er}{k:er}{i:Int}(h:O5 a k=some i):0<=i/\i<a.length:=by
 unfold O5 at h;cases hf:a.findIdx? (·==k)with
 |none=>rw[hf]at h;cases h
 |some j=>
  rw[hf]at h;simp only[Option.map_some,bA]at h;have:=(List.findIdx?_eq_some_iff_getElem.1 hf).1;omega
def Ub{a:List er}{k:er}(h:O5 a k=none):(λz=>if z=k then some (a.length:Int)else O5 a z)=O5 (a++ [k]):=by
 funext z;unfold O5 at h⊢;rw[Option.map_eq_none_iff,List.findIdx?_eq_none_iff]at h;rw[List.findIdx?_append];split
 .rename_i e
  subst e;have:a.findIdx? (·==z)=none:=List.findIdx?_eq_none_iff.2 h;rw[this];simp
 .rename_i c
  have:(k==z)=false:=by simp;exactλe=>c e.symm
  cases hf:a.findIdx? (·==z)with
  |none=>simp[List.findIdx?_cons,this]
  |some j=>simp
def t_(l:er):List ah:=[aA ⟨l.toArray⟩]
def nK(B:Nat)(w:ae)(v:ah)(ws:List er):Prop:=Own B 9 1 w v (ws.flatMap t_) ws.length
def nK.reads{B:Nat}{v:ah}{xs:List er}(h:nK B w v xs):aT t_ 1 w v xs:=aT.sJ h (λ_=>rfl) (by decide)
def nK.push{B:Nat}{v:ah}{xs:List er}(h:nK B w v xs)(x:er)(d:xs.length<=1000000)(e:B<=w):
 ∃a c w',(∀f,(Builtin.append_ #[22,22] f #[v,av (some ⟨w,0,none⟩) 1 1]).run prog (w.alloc (aB #[aA ⟨x.toArray⟩] 9 (0,0)))=.ok (av a (xs.length+1) c) w')/\nK B w' (av a (xs.length+1) c) (xs++ [x])/\ai B w w':=by
 have⟨a,c,w',i,j,k⟩:=Own.push h 22 underlying22 Af rfl (by decide) [aA ⟨x.toArray⟩] rfl (by simp[Value.oneCell']) d (by decide) e;refine⟨a,c,w',i,?_,k⟩;unfold nK;rw[fQ,bF];exact j
def QE{v:ah}{ws:List ByteArray}(h:aT oR 1 w v ws):aT t_ 1 w v (ws.map (·.data.toList)):=by
 obtain⟨a,c,rfl,f,k,l⟩:=h;refine⟨a,c,by rw[cr],by simpa using f,by simpa using k,λi d=> ?_⟩;rw[cr]at d;obtain⟨b,e,rfl,m,n⟩:=l i d;refine⟨b,e,rfl,m,λj u o=>n j u ?_⟩;rw[<-o];simp[t_,oR,aU,d]
def xc{v:ah}{f:List er}(h:aT t_ 1 w v f):aT oR 1 w v (f.map λl=>⟨l.toArray⟩):=by
 obtain⟨a,c,rfl,k,m,n⟩:=h;refine⟨a,c,by rw[cr],by simpa using k,by simpa using m,λi d=> ?_⟩;rw[cr]at d;obtain⟨b,e,rfl,o,q⟩:=n i d;refine⟨b,e,rfl,o,λj u r=>q j u ?_⟩;rw[<-r];simp[t_,oR,aU,d]
theorem xd{d:Type}[Inhabited d]{f:d->List ah}{a n c k:Nat}{xs:List d}(h:aT f 1 w (av (some ⟨b,a,none⟩) n c) xs)(v:k<=xs.length):
 aT f 1 w (av (if c=k then some ⟨b,a,none⟩else some ⟨b,a+k,none⟩) (xs.length-k) (c-k)) (xs.drop k):=by
 obtain⟨x,l,e,y,z,o⟩:=h;simp only[bG]at e;obtain⟨rfl,rfl,rfl⟩:=e;refine⟨_,c-k,by rw[j8],by simp;omega,by simp;omega,λi q=> ?_⟩;rw[j8]at q;have⟨A,m,e,r,s⟩:=o (k+i) (by omega);simp only[bA,dr,et]at e;obtain⟨rfl,rfl⟩:=e;refine⟨b,a+k,by rw[aC (by omega)],r,λj u t=> ?_⟩;have:=s j u (by rw[<-t];simp[aU,List.getElem?_drop]);rw[<-this];congr 2;omega
def aQ.wide{T:List Nat}{a:ae}(h:aQ S w w')(g:aQ T w' a)(i:∀x∈T,x∈S∨w.heap.size<=x):aQ S w a:=
 ⟨g.os.trans h.os,g.tape.trans h.tape,g.output.trans h.output,bD h.size g.size,λk c d=>(g.block k (bP c h.size) (λe=>by rcases i k e with f|f;exact d f;omega)).trans (h.block k c d)⟩
def sA(b:Bool):List Int:=dA (if b then 1 else 0) 1
def qZ(x:aY):List Int:=dA x.1 1++dA x.2.size 2++qU x.2
def o6(xs:List Int):List Int:=xs.flatMap λx=>dA x 4
def cd.body:cd->List Int
 | .eu a b=>o6 [a,b]
 | .grant a b c=>o6 [a,b,c]
 | .ask a=>o6 [a.slot,a.query,a.aR,a.seq,a.aW]++dA a.text.size 2++qU a.text++dA a.k 1++dA a.batch 1++sA a.first++dA a.jk 1++dA a.word.size 2++qU a.word
 | .dj r=>o6 [r.slot,r.query,r.aR,r.seq,r.worker,r.aW]++dA r.items.length 1++r.items.flatMap qZ++sA r.fin
 | .stop a b=>o6 [a,b]
def nY(b:List Int):List Int:=dA ((b.length:Int)+4) 2++b.drop 2
def JN(b:List Int):List Int:=nY b++dA (l_ (nY b)) 4
def cd.frame(m:cd):List Int:=JN ([0,0,m.kind]++m.body)
def QF{P:Program}{b:Array Oper}{o:Oper}{a:Act}{K:Act->ae->Prop}{Q:Exit->Act->ae->Prop}{E:Prop}(g:o.guard=none)(s x:Operand)(t u:TypeId)
 (h:o.op=.call {callee:=.builtin .copy,args:= #[s,x],argTypes:= #[t,u]}) (v d e:ah) (f:ae) (hs:a.eval s=v) (i:a.eval x=d)
 (c:(Builtin.copy_ #[t,u] o.type #[v,d]).run P w=.ok e f) (j:K (a.put o.dst e) f):if Region.wanted o (yielded b a.tmps)=true then Oper.wp P o a w K Q else E:=by
 have k:Region.wanted o (yielded b a.tmps)=true:=by simp[Region.wanted,g]
 rw[aI k];unfold Oper.wp;simp[execOp,h,resolve,invoke,builtin,hs,i,c,Result.andThen];exact j
def Seg.copy{e:TypeId}{g:Option Nat}{v:ah}{cs:List ah}{n:Nat}(h:Seg w e 1 g v cs n)(t u o:TypeId)(q:prog.underlying t=some (.slice e))(r:(prog.info? e).map (·.size)=some 1){sa:Addr}{sc:Nat}(xs:List ah)(E:xs.length<=n)(s:0<xs.length)
 (d:∀j y,xs[j]? =some y->w.cell? (sa.add j)=some y) (x:∀y∈xs,y.oneCell'=true):
 ∃w',(Builtin.copy_ #[t,u] o #[v,av (some sa) xs.length sc]).run prog w=.ok (goInt xs.length) w'/\Seg w' e 1 g v (xs++cs.drop xs.length) n/\aQ g.toList w w':=by
 obtain⟨F,⟨rfl,rfl,rfl⟩|⟨b,a,f,c,rfl,rfl,p,z,A,G,B⟩⟩:=h
 .omega
 .have i:a+xs.length<=c.size:=by omega
  have l:=run_copy_row (P:=prog) w t u o e b a n f sa xs.length sc c e xs q r p (show xs.length=Nat.min xs.length n by show _=min _ _;omega) d i x;refine⟨_,l,⟨by simp;omega,.inr ⟨b,a,f,_,rfl,rfl,setRow_heap w b _ _ e _ p,z,A,by simp;omega,λj H=> ?_⟩⟩,?_⟩
  .rw[List.getElem?_toArray,h_,g_ (by simp;omega)]
   simp only[dw,Array.length_toList];rw[show a+j-min a c.size=j by omega];by_cases m:j<xs.length
   .rw[gZ m,gZ m]
   .rw[g_ (by omega),g_ (by omega),List.getElem?_drop,List.getElem?_drop,Array.getElem?_toList,<-B (xs.length+(j-xs.length)) (by omega)]
    congr 1;omega
  .exact⟨rfl,rfl,rfl,by simp,λk _ C=>setRow_other w b k _ (by simpa using C)⟩
def ad3:(prog.info? 5).map (·.size)=some 1:=by kernel_rfl
def JO{bs:List Int}(h:2<=bs.length):(nY bs).length=bs.length:=by
 unfold nY;simp[dA];omega
def XA{B p:Nat}{y:ae}{g:Option Nat}{v:ah}{bs:List Int}(F:w.heap[p]? =some (aB #[v] 233 (0,0)))(L:B<=p)(o:∀b,g=some b->B<=b/\b≠p)(G:Seg w 5 1 g v (lJ bs) bs.length)(m:ai w w y)(q:B<=w){a:Option Addr}{c:Nat}(r:dI w y (av a 2 c) (dA ((bs.length:Int)+4) 2))(H:2<=bs.length):
 ∃w2,(∀I,(Builtin.copy_ #[188,188] I #[v,av a 2 c]).run prog y=.ok (2:Int) w2)/\w2.heap[p]? =some (aB #[v] 233 (0,0))/\Seg w2 5 1 g v (lJ (nY bs)) bs.length/\ai B w w2:=by
 have s:=ch m;have⟨b,d,J,h,_,_,_⟩:=Own.cell r (by decide) 0 (by simp[dA]);have f:(dA ((bs.length:Int)+4) 2).length=2:=by simp[dA]
 rw[f]at h;simp only[bG,bK]at h;obtain⟨rfl,rfl⟩:=h;have i:∀j u,(lJ (dA ((bs.length:Int)+4) 2))[j]? =some u->y.cell? ((⟨b,d,none⟩:Addr).add j)=some u:=λj u t=>by
  have K:j<2:=by have:=(List.getElem?_eq_some_iff.1 t).1;simpa[lJ,dA]using this
  have⟨M,z,A,h,_,_,n⟩:=Own.cell r (by decide) j (by rw[f];exact K);simp only[bG,bA,dr,et]at h;obtain⟨⟨rfl,rfl⟩,_⟩:=h;have:=(n 0 u (by decide) (by simpa using t)).1;exact(congrArg y.cell? (show(⟨b,d,none⟩:Addr).add j=⟨b,d+j*1+0,none⟩by simp[Addr.add])).trans this
 have k:(lJ (dA ((bs.length:Int)+4) 2)).length=2:=by simp[lJ,dA]
 have⟨w2,C,E,l⟩:=(G.bH s (by simp)).copy 188 188 0 underlying188 ad3 (sa:=⟨b,d,none⟩) (sc:=c) _ (by rw[k];exact H) (by rw[k];decide) i (by simp[lJ,Value.oneCell']);rw[k]at C E;refine⟨w2,λ_=>C,l.at (s.at F (by simp)) (λe=> ?_),?_,(m.mono q).trans (l.below (λx k=>(o x (by simpa using k)).1) (bD q m.size))⟩
 .exact(o p (by simpa using e)).2 rfl
 .have e:lJ (nY bs)=lJ (dA ((bs.length:Int)+4) 2)++(lJ bs).drop 2:=by simp[lJ,nY]
  rw[e];exact E
def gS(xs:List Int):(o6 xs).length=4*xs.length:=by
 unfold o6
 induction xs with
 |nil=>rfl
 |cons a l b=>rw[eI,bF,b,cG];simp[dA];omega
def fY(n:Int)(k:Nat):(dA n k).length=k:=by simp[dA]
def vm(b:Bool):(sA b).length=1:=by simp[sA,dA]
def JP{xs:List Int}(h:me xs=true):∀x∈xs,0<=x/\x<9223372036854775808:=by
 intro x a;have:=List.all_eq_true.1 h x a;simp[OR]at this;omega
def ub{B p:Nat}{y:ae}{bs:List Int}(h:jO B y p bs)(g:bs.length<=10000)(xs:List Int)(i:∀x∈xs,0<=x/\x<9223372036854775808)(j:xs.length<=100){q n:Nat}(k:q=y.heap.size)(d:n=xs.length)(cs:Array ah)(f:cs=(xs.map (Value.int .i64)).toArray):
 aj prog 117 #[p,av (some ⟨q,0,none⟩) n n] (y.alloc (aB cs 3 (0,0))) λe w'=>e=ax (aM #[])/\jO B w' p (bs++o6 xs)/\aQ [p] y w':=by
 subst k d;have r:=h.lt;have b:ai y y (y.alloc (aB cs 3 (0,0))):=(aO _ _).alloc (aP _) _;refine(ad2 (h.below b) g (kO y xs 3 cs f (by unfold maxLen;omega)) (λa n c e=> ?_) j i).mono λe w' ⟨l,m,o⟩=>⟨l,m,((ch b).mono (by simp)).trans o⟩
 simp only[bG,bA]at e;obtain⟨rfl,_⟩:=e;simp;omega
def i_.put{w:ae}{p:Nat}{f:Int}{b a g n:Nat}{l:List iG}(h:i_ w p f (some b) (av (some ⟨b,a,none⟩) n g) l)(r:n=l.length)(k:Nat)(j:k<l.length)(t u id:Int)(i:l.getD k ()=(u,id)):
 i_ (w.setCell ⟨b,a+k*2,none⟩ t) p f (some b) (av (some ⟨b,a,none⟩) n g) (l.set k (t,id))/\aQ [b] w (w.setCell ⟨b,a+k*2,none⟩ t):=by
 subst r;have m:aQ [b] w (w.setCell ⟨b,a+k*2,none⟩ t):=(aQ.refl _ _).setCell _ (by simp) _;have o:=tR l;have e:lK (l.set k (t,id))=(lK l).set (k*2) t:=by
  rw[Jn l k (t,id) j];apply List.ext_getElem?;intro q;rw[iW];split
  .rename_i e
   subst e;rw[aI (by rw[ds];omega),List.getElem?_set_ne (by omega),fK l k 1 j (by decide),i];rfl
  .rfl
 refine⟨⟨m.at h.c (by simpa using h.d),?_,h.d,by simpa using h.n⟩,m⟩;rw[ds,e];exact iw h.s (by omega) _
def XB{w:ae}{p:Nat}{c:Int}{g:Option Nat}{T:Int->Option Int}{n:Nat}(h:mR w p c g T n)(id t:Int)(h0:0<=id)(t0:0<=t)(t1:t<=1099511627776)(i:T id=none->(n:Int)<c):
 aj prog 262 #[p,id,t] w λe w'=>e=ax (0:Int)/\oF w p c g (sd T id (some t)) (if(T id).isSome then n else n+1) w':=by
 obtain⟨⟨v,l,j,B,rfl⟩,G,m⟩:=h;have C:=TD j id;have H:=j.n;cases hi:T id with
 |none=>
  rw[(B.no hi).2]at C;have hlt:=i hi;obtain⟨I,J,K⟩:=aX (B.push hi t) C j;obtain⟨a,L,rfl,E,Z⟩:=j.s.len;have hb:((l.length:Int)==c)=false:=by simp;omega
  clear C hi j i B;go_in;go_wp2_with fail
  refine aN J.o ?_;intro y r;have d:=K.o.bH (aQ.of_below r);obtain⟨M,N,hp,_⟩:=d.cell;obtain⟨HY,O⟩:=aK (ch r) d;clear r d;go_wp2_with fail
  go_quiet (fail);have P:=au (HY.o.trans (bo y nq));have u:=O.o.bH (bo y nq);generalize y.drewN nq=z at*;obtain⟨c0',c1',hp',_⟩:=u.cell;have HP:=au (Qx u (by omega) t id);clear u M N hp;go_wp2_with fail
  refine aN HP.o ?_;intro x q;have Q:=au ((q.Ct I.o (by simp) (by omega:((l.length+1:Nat):Int)<=c) m).from P.o);clear q;go_wp2;go_ret;exact⟨rfl,Q.o⟩
 |some tt=>
  obtain⟨k,F,A,q⟩:=B.yes hi;rw[q]at C;obtain⟨J,K,I⟩:=aX C j (B.set (t':=t) F A);obtain⟨a,L,rfl,E,Z⟩:=j.s.len;unfold maxLen at Z;have U:=au A;clear C hi q A j i B;go_in;go_wp2_with fail
  refine aN J.o ?_;intro y r;have d:=K.o.bH (aQ.of_below r);obtain⟨M,N,hp,_⟩:=d.cell;obtain⟨b,V,cp,W,he,hl,hc⟩:=d.s.cell (by decide) k F;simp only[bG,bK]at he;obtain⟨rfl,rfl⟩:=he;subst W;obtain⟨a0,f0⟩:=hc 0 _ (by decide) (by rw[fK l k 0 F (by decide)];rfl);simp only[bM]at a0 f0;have f:=d.put rfl k F t tt id U.o;obtain⟨z,X⟩:=aD (y.setCell ⟨b,V+k*2,none⟩ t);rw[<-X]at f;obtain⟨_,d1,hpz,_⟩:=f.1.cell;obtain⟨Y,HZ,HC⟩:=aX (TT f.1 k (by simpa using F)) X (show aQ (p:: [b]) w z from((aQ.of_below r).trans f.2).mono (by simp));have q1:(0:Int)<=(k:Int):=by omega
  have q2:(k:Int)<(l.length:Int):=by omega
  clear r d hc f X;go_upto_region 9 with fail
  rw[<-HZ.o];clear a0 f0 M N;go_wp2_with fail
  refine aN Y.o ?_;intro x q;have Q:=au (mf.Ct (mf.step (g:=some b) (.inl rfl) HC.o q) I.o (by simp) G m);clear q d1;go_wp2;go_ret;exact⟨rfl,Q.o⟩
section
open Go.Maps Go.ChangeMaps Go.MapKept Go.WideShapes
def zI(v:ah):Option (DataW ah×List MemPlace):=some (.held v,[])
def xh{v r:ah}{a:List MemPlace}(h:zI v=some (.held r,a)):v=r:=by
 simp only[zI,bA,Prod.mk.injEq,DataW.held.injEq]at h;exact h.1
def je(z:ah)(w:ae)(b:Nat)(f:Int->Option ah)(n:Nat):Prop:=
 ∃D:DataW ah,w.ownsMap prog 3 zI b n D/\Maps.size D=n/\(∀x,ld x->Maps.has D (kZ x)=(f x).isSome)/\∀x,ld x->D.atKey (kZ x) (.held z)=.held ((f x).getD z)
variable{z:ah}{w:ae}{b:Nat}{f:Int->Option ah}{n:Nat}
def je.lt(h:je z w b f n):b<w:=by
 obtain⟨D,h,_⟩:=h;exact h.lt
def je.same{w':ae}(h:je z w b f n)(c:w'.heap[b]? =w.heap[b]?):je z w' b f n:=by
 obtain⟨D,⟨d,a,e,g⟩,r⟩:=h;exact⟨D,⟨d,a,c.trans e,g⟩,r⟩
def je.bH{w':ae}{S:List Nat}(h:je z w b f n)(a:aQ S w w')(c:b∉S):je z w' b f n:=h.same (a.block b h.lt c)
def je.made(z:ah)(w:ae):je z (w.alloc (.map #[] 0)) w (λ_=>none) 0:=
 ⟨.map [],World.ownsMap_made _ _ _ _,rfl,λ_ _=>rfl,λ_ _=>rfl⟩
variable{x:Int}
def je.look_ok(h:je z w b f n){t e:TypeId}(i:prog.underlying t=some (.map 3 e))(j:∀w,(zeroValue e).run prog w=.ok z w)(a:ld x):
 (Instr.lookup t (.map (some b)) x true).run prog w=.ok (aM #[(f x).getD z,aw (f x).isSome]) w:=by
 obtain⟨D,h,_,k,l⟩:=h;have⟨v,o,m,c⟩:=h.look_ok iM i (j _) (zd:=.held z) (zp:=[]) rfl (keyOf_int_mk underlying3 a);have d:=l x a;unfold kZ at d;rw[d]at c;have g:=k x a;unfold kZ at g;rw[m,g,xh c]
def je.look(h:je z w b f n){t e:TypeId}(g:prog.underlying t=some (.map 3 e))(i:∀w,(zeroValue e).run prog w=.ok z w)(a:ld x):
 (Instr.lookup t (.map (some b)) x false).run prog w=.ok ((f x).getD z) w:=by
 obtain⟨D,h,_,l,j⟩:=h;have⟨v,m,k,c⟩:=h.lookup iM g (i _) (zd:=.held z) (zp:=[]) rfl (keyOf_int_mk underlying3 a);have d:=j x a;unfold kZ at d;rw[d]at c;rw[k,xh c]
def je.drop(h:je z w b f n){t e:TypeId}(d:prog.underlying t=some (.map 3 e))(j:ld x):
 ∃w',(∀c,(Builtin.delete_ #[t,3] c #[.map (some b),x]).run prog w=.ok (aM #[]) w')/\
  je z w' b (λy=>if y=x then none else f y) (n-if(f x).isSome then 1 else 0)/\aQ [b] w w':=by
 obtain⟨D,h,o,l,p⟩:=h;have T:=h.tidy iM;have⟨w',g,q,d⟩:=h.drop iM d (keyOf_int_mk underlying3 j) 0;have g:∀c,(Builtin.delete_ #[t,3] c #[.map (some b),x]).run prog w=.ok (aM #[]) w':=λc=>g
 have m:=size_del (k:=kZ x) T;have e:Maps.size (D.del (kZ x))=n-if(f x).isSome then 1 else 0:=by
  rw[l x j,o]at m;split at m<;>split<;>simp_all<;>omega
 refine⟨w',g,⟨D.del (kZ x),by rw[<-e];exact oQ q,e,λy i=> ?_,λy i=> ?_⟩,sP d⟩
 .by_cases a:y=x
  .subst a
   simp[has_del_same]
  .rw[has_del_other (wT a),l y i]
   simp[a]
 .by_cases a:y=x
  .subst a
   simp[atKey_del_same]
  .rw[atKey_del_other (wT a),p y i]
   simp[a]
def je.store(h:je z w b f n){t e:TypeId}(c:prog.underlying t=some (.map 3 e))(r:n<1000000)(d:ld x)(u:ah):
 ∃w',(Instr.mapUpdate t (.map (some b)) x u).run prog w=.ok () w'/\
  je z w' b (λy=>if y=x then some u else f y) (if(f x).isSome then n else n+1)/\aQ [b] w w':=by
 obtain⟨D,h,g,j,m⟩:=h;have T:=h.tidy iM;have l:WideAt.IsKeyLit (kZ x):=iM.key (keyOf_int_mk underlying3 d);have⟨w',o,p,c⟩:=h.store iM c (by unfold maxLen;omega) (keyOf_int_mk underlying3 d) (show zI u=some (.held u,[])from rfl);have q:=size_put (k:=kZ x) T (.held u);have e:Maps.size (D.put (kZ x) (.held u))=if(f x).isSome then n else n+1:=by
  rw[q,j x d,g]
 refine⟨w',o,⟨D.put (kZ x) (.held u),by rw[<-e];exact oQ p,e,λz i=> ?_,λz i=> ?_⟩,sP c⟩
 .by_cases a:z=x
  .subst a
   simp[has_put_same T.isMap l]
  .rw[has_put_other (wT a),j z i]
   simp[a]
 .by_cases a:z=x
  .subst a
   simp[atKey_put_same T.isMap l]
  .rw[atKey_put_other (wT a),m z i]
   simp[a]
end
end Go.Proofs.YtjpnlfpompnpkaaGreat
