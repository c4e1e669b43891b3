import Derived.Laws.OwnMore
import Derived.Outline
import Derived.Deep.CutBlock
import Derived.Deep.DeepCutAuto
import Derived.StillTailTactics
import Derived.Lib.MinMax
import Derived.RegionTactic
import Derived.Laws.BitsAllLaws
import Derived.Laws.BytesArg
import Derived.Lib.AppendStr
import Derived.OwnWalk
import Derived.Laws.StructEq
import Derived.Test.YtjpnlfpompnpkaaGreatP01
import Derived.Test.YtjpnlfpompnpkaaGreatP02
import Derived.Test.YtjpnlfpompnpkaaGreatP03
namespace Go.Proofs.YtjpnlfpompnpkaaGreat
open Go.RowKit Go.Proofs.Tryz
open Go.Value renaming int->an,slice->av,bool->aw,string->aA,tuple->aM,pointer->aL,agg->aG
open Go.IntKind renaming i64->ar
open Go.Ending renaming returned->ax
open Go.Obj renaming cells->aB
open Go renaming World->ae,Value->ah,Calls->aj,Ending->ak
open Go.RowKit renaming Below->ai
set_option maxRecDepth 100000
set_option linter.all false
set_option maxHeartbeats 4000000
open Go.ChangeMaps
structure GV where
 id:Int
 lh:Int
 tO:Int
 fr:List Int
 sp:Bool
deriving DecidableEq,Inhabited
structure GM where
 g:GV
 fv:ah
 fb:Option Nat
def GM.cells(m:GM):List ah:=[an ar m.g.id,an ar m.g.lh,an ar m.g.tO,m.fv,aw m.g.sp]
def py(Ms:List GM):List ah:=Ms.flatMap GM.cells
def lJ(bs:List Int):List ah:=bs.map (Value.int .u8)
instance:Inhabited GM:=⟨⟨default,.slice none 0 0,none⟩⟩
def oe(b:List GM):(py b).length=b.length*5:=by
 induction b with
 |nil=>rfl
 |cons a l c=>simp only[py,eI]at*;simp[c,GM.cells];omega
def WS(a:List GM)(m:GM):py (a++ [m])=py a++m.cells:=by simp[py]
def oh(b:List GM)(i j:Nat)(h:i<b.length)(f:j<5):(py b)[i*5+j]? =(b.getD i ()).cells[j]? :=by
 induction b generalizing i with
 |nil=>simp at h
 |cons a l c=>
  have e:py (a::l)=a.cells++py l:=by simp[py]
  have d:a.cells.length=5:=rfl;cases i with
  |zero=>
   rw[e,Nat.zero_mul,eJ,gZ (by omega)];rfl
  |succ i=>
   have:=c i (by simpa using h);rw[e,g_ (by omega),d,show(i+1)*5+j-5=i*5+j by omega,this];rfl
def dG(p:Nat)(g:Option Nat)(Ms:List GM):List Nat:=p::(g.toList++Ms.filterMap GM.fb)
structure sw(w:ae)(p:Nat)(g:Option Nat)(v:ah)(most next:Int)(Ms:List GM):Prop where
 c:w.heap[p]? =some (aB #[an ar most,an ar next,v] 168 (0,0))
 s:Seg w 193 5 g v (py Ms) Ms.length
 f:∀m∈Ms,Seg w 5 1 m.fb m.fv (lJ m.g.fr) m.g.fr.length
 d:(dG p g Ms).Nodup
 m1:1<=most
 m2:most<=64
 n1:0<=next
 n2:next<=1000000000
 l:(Ms.length:Int)<=most
def Kept(F:List Nat)(w w':ae):Prop:=∀x∈F,w'.heap[x]? =w.heap[x]?
variable{F:List Nat}{w w':ae}
def Kept.trans{a:ae}(h:Kept F w w')(c:Kept F w' a):Kept F w a:=λx b=>(c x b).trans (h x b)
def Kept.mono{F':List Nat}(h:Kept F w w')(hF:∀x∈F',x∈F):Kept F' w w':=λx a=>h x (hF x a)
def Kept.dC{S:List Nat}(h:aQ S w w')(b:∀x∈F,x<w)(c:∀x∈F,x∉S):Kept F w w':=λx a=>h.block x (b x a) (c x a)
variable{g:Option Nat}
def Seg.kept{e sz:Nat}{v:ah}{cs:List ah}{n:Nat}(h:Seg w e sz g v cs n)(i:Kept g.toList w w'):Seg w' e sz g v cs n:=by
 obtain⟨f,h|⟨b,a,c,d,rfl,j,k,r⟩⟩:=h
 .exact⟨f,.inl h⟩
 .exact⟨f,.inr ⟨b,a,c,d,rfl,j,(i b (by simp)).trans k,r⟩⟩
variable{p:Nat}
def sw.kept{v:ah}{a next:Int}{e:List GM}(h:sw w p g v a next e)(i:Kept (dG p g e) w w'):sw w' p g v a next e:=
 ⟨(i p (by simp[dG])).trans h.c,h.s.kept (i.mono λx b=>by simp[dG]at b⊢;simp[b]),λm k=>(h.f m k).kept (i.mono λx b=>by
  have j:m.fb=some x:=by simpa using b
  simp only[dG,bQ,dJ,mF];exact .inr (.inr ⟨m,k,j⟩)),h.d,h.m1,h.m2,h.n1,h.n2,h.l⟩
def sw.lt{v:ah}{b next:Int}{d:List GM}(h:sw w p g v b next d):∀x∈dG p g d,x<w:=by
 intro x a;simp only[dG,bQ,dJ,mF,eZ]at a;obtain rfl|a|⟨m,e,a⟩:=a
 .exact az h.c
 .exact h.s.lt x a
 .exact(h.f m e).lt x a
def NF(B:Nat)(F:List Nat)(w:ae)(p:Nat)(most next:Int)(L:List GV):Prop:=
 ∃g v Ms,sw w p g v most next Ms/\Ms.map GM.g=L/\(∀x∈dG p g Ms,B<=x)/\B<=w/\∀x∈F,x<w/\x∉dG p g Ms
variable{B:Nat}{L:List GV}
def NF.size{a next:Int}(h:NF B F w p a next L):B<=w:=by
 obtain⟨g,v,b,_,_,_,h,_⟩:=h;exact h
def NF.len{a next:Int}(h:NF B F w p a next L):1<=a/\a<=64/\0<=next/\next<=1000000000/\(L.length:Int)<=a:=by
 obtain⟨g,v,b,h,rfl,_⟩:=h;exact⟨h.m1,h.m2,h.n1,h.n2,by simpa using h.l⟩
def NF.mono{F':List Nat}{a next:Int}(h:NF B F w p a next L)(hF:∀x∈F',x∈F):NF B F' w p a next L:=by
 obtain⟨g,v,b,c,d,e,f,i⟩:=h;exact⟨g,v,b,c,d,e,f,λx j=>i x (hF x j)⟩
def NF.bH{a next:Int}(h:NF B F w p a next L)(c:aQ F w w'):NF B F w' p a next L:=by
 obtain⟨g,v,i,f,j,k,l,d⟩:=h;exact⟨g,v,i,f.kept (Kept.dC c f.lt λx b e=>(d x e).2 b),j,k,bD l c.size,λx b=>⟨bP (d x b).1 c.size,(d x b).2⟩⟩
def NF.add{x:Nat}{a next:Int}(h:NF B F w p a next L)(c:aQ F w w')(j:w.heap.size<=x)(d:x<w'):NF B (x::F) w' p a next L:=by
 obtain⟨g,v,k,f,l,m,n,i⟩:=h;refine⟨g,v,k,f.kept (Kept.dC c f.lt λx j e=>(i x e).2 j),l,m,bD n c.size,λy b=> ?_⟩;obtain rfl|b:=List.mem_cons.1 b
 .exact⟨d,λe=>by have:=f.lt y e;omega⟩
 .exact⟨bP (i y b).1 c.size,(i y b).2⟩
def infoByte:(prog.info? 5).map (λi=>(i.zero,i.size,i.bytes))=some (some (.int .u8 0),1,1):=by kernel_rfl
def gC{w:ae}{g:Option Nat}{v:ah}{bs:List Int}(h:Seg w 5 1 g v (lJ bs) bs.length):dc w .u8 v bs:=by
 obtain⟨m,⟨rfl,rfl,e⟩|⟨b,a,c,f,rfl,rfl,d,j,n,o,k⟩⟩:=h
 .have:bs=[]:=List.length_eq_zero_iff.1 e
  subst this;exact uQ _ _
 .refine⟨_,c,rfl,by omega,⟨j,λh=>by cases h⟩,λi l=>⟨b,a,rfl,az d,?_⟩⟩
  simp only[World.cell?,d];rw[k i (by omega)];unfold lJ;simp[aU,l]
def ON(v:ah)(bs:List Int)(w:ae)(h:dc w .u8 v bs)(F:bs.length<=1000000):
 aj prog 101 #[v] w λe w'=>∃v',e=ax v'/\w'.ownsRow w 5 1 v' bs.length (lJ bs)/\ai w w w':=by
 have⟨y,s,g,i,k⟩:=info_parts infoByte;have⟨z,m,n,p⟩:=c_ s g i k;clear s g i k;have H:=au h;obtain⟨a,q,rfl,G,l,_⟩:=h;have t:=λW=>lF (P:=prog) W 188 5 a bs.length q 0 0 underlying188
 cases a with
 |none=>
  have r:=l.2 rfl;have u:=l.1;subst r;have A:bs=[]:=List.length_eq_zero_iff.1 (by omega);subst A;clear t;have t:=λW=>lF (P:=prog) W 188 5 none 0 0 0 0 underlying188
  go_in;go_wp2;go_ret;exact⟨_,rfl,World.ownsRow_nil _ _ _ _,aO _ _⟩
 |some a=>
  go_in;have b:=World.ownsRow_lit (base:=w.heap.size) (size:=1) (e:=5) w #[] 0 (aP _) (by decide) rfl;have B:=au b;clear b;go_wp2_with (at_builtin;refine r_ rfl (.tmp 5) (.tmp 6) 188 rfl w 5 y (.int .u8 0) 1 underlying188 z.o m.o n.o p.o rfl _ 0 [] rfl B.o .u8 _ bs rfl (H.o.alloc _) (by unfold maxLen;omega) (by omega) (by simp) ?_;intro x C c d);go_ret;have f:C.ownsRow w 5 1 x bs.length (lJ bs):=by simpa[lJ]using c
  exact⟨x,rfl,f,((aO _ _).alloc (aP _) _).grown d (by simp) (λj E=>by cases E;exact aP _)⟩
def uU(v:ah)(bs:List Int)(w:ae)(h:dc w .u8 v bs)(a:bs.length<=1000000):
 aj prog 101 #[v] w λe w'=>∃v',e=ax v'/\∃g',Seg w' 5 1 g' v' (lJ bs) bs.length/\(∀x,g'=some x->w.heap.size<=x)/\ai w w w':=
 (ON v bs w h a).mono λe w' ⟨v',b,c,d⟩=>by
  have⟨g',f,g⟩:=Seg.zu c;exact⟨v',b,g',f,g,d⟩
def Jh:(prog.info? 193).map (λi=>(i.zero,i.size,i.bytes))=some (some (aG #[an ar 0,an ar 0,an ar 0,(),aw false]),5,56):=by kernel_rfl
def bo(w:ae)(n:Nat):aQ ([]:List Nat) w (w.drewN n):=⟨rfl,rfl,rfl,aP _,λ_ _ _=>rfl⟩
def ahL(w:ae)(a:Int)(b:1<=a)(c:a<=64):aj prog 58 #[(a:Int)] w λe w'=>e=ax (aM #[w.heap.size,an ar 0])/\(NF w [] w' w a 0 []/\ai w w w'):=by
 go_in;go_wp2;go_ret2;refine⟨rfl,⟨none,(),[],⟨a_ _ _,Seg.nil _ _ _,by simp,by simp[dG],b,c,by omega,by omega,by simp;omega⟩,rfl,by simp[dG],by simp,by simp⟩,(aO _ _).alloc (aP _) _⟩
def qm(n:Nat)(i:Int):Bool:=decide (0<=i)&&decide (i<n)
def isC{w:ae}{p:Nat}{g:Option Nat}{v:ah}{b next:Int}{d:List GM}(h:sw w p g v b next d)(i:Int):aj prog 100 #[p,(i:Int)] w λe w'=>e=ax (aw (qm d.length i))/\w=w':=by
 have f:=h.c;obtain⟨a,j,rfl,k,l⟩:=h.s.len;have m:=aF f 2 rfl;unfold maxLen at l;clear f h;unfold qm;by_cases n:0<=i
 .by_cases o:i<(d.length:Int)
  all_goals
   go_in;go_wp2;go_ret;exact⟨cA (by simp<;>omega),rfl⟩
 .go_in
  go_wp2;go_ret;exact⟨cA (by simp<;>omega),rfl⟩
open mX
def de{P:Program}{f:FuncId}{args:Array ah}{w:ae}{n:Nat}{v:ah}
 (h:aj P f args (w.drewN n) λe w'=>e=ax v/\w.drewN n=w'):aj P f args (w.drewN n) λe a=>e=ax v/\∃m,a=w.drewN m:=
 h.mono λ_ _ ⟨b,c⟩=>⟨b,n,c.symm⟩
def oR(s:ByteArray):List ah:=[aA s]
instance:Inhabited ByteArray:=⟨ByteArray.empty⟩
def kL{α:Type}(lt:α->α->Bool):List α->Bool
 |a::b::l=>lt a b&&kL lt (b::l)
 |_=>true
theorem j_{c:Type}[Inhabited c](lt:c->c->Bool)(l:List c):kL lt l=true↔∀m,m+1<l.length->lt (l.getD m ()) (l.getD (m+1) ())=true:=by
 induction l with
 |nil=>simp[kL]
 |cons a l e=>
  cases l with
  |nil=>simp[kL]
  |cons b l=>
   simp only[kL,cV,e];constructor
   .rintro⟨f,g⟩ m d
    cases m with
    |zero=>exact f
    |succ m=>simpa using g m (by simpa using d)
   .intro h
    exact⟨h 0 (by simp),λm d=>by simpa using h (m+1) (by simpa using d)⟩
def Tr(a b:ByteArray):Bool:=decide (nX a b<0)
def fx(ws:List ByteArray):Int:=if 60<ws.length then 3 else if ws.all (λs=>mQ s.data.toList)=false then 6 else if kL Tr ws=false then 7 else 0
theorem bh{a:Type}[Inhabited a](L:List a)(k:Nat)(h:k<L.length):L.getD k ()∈L:=by simp[aU,h]
theorem oS{a:Type}[Inhabited a](p:a->Bool)(L:List a):L.all p=true↔∀k,k<L.length->p (L.getD k ())=true:=by
 rw[pC];constructor
 .exactλh k c=>h _ (bh L k c)
 .intro h x d
  obtain⟨i,b,rfl⟩:=lG d;simpa[aU,b]using h i b
def My(v:ah)(ws:List ByteArray)(w:ae)(h:aT oR 1 w v ws)(p:∀s∈ws,s.size<=1000):
 aj prog 60 #[v] w λe w'=>e=ax (fx ws:Int)/\ai w w w':=by
 have⟨O,HS⟩:=aK h p;obtain⟨a,cap,rfl,hm,B,_⟩:=h;unfold maxLen at hm;clear p;by_cases M:60<ws.length
 .have e:fx ws=3:=by unfold fx;rw[aI M]
  rw[e];clear e;go_in;go_wp2;go_ret;exact⟨rfl,aO _ _⟩
 have⟨z,P⟩:=aD (fx ws);rw[<-P];have Q:=au P;clear P;go_in;go_wp2_with fail
 go_loopw [11] (λi wr=>∃k:Nat,k<=ws.length/\i=an ar k/\(∀j,j<k->mQ (ws.getD j ()).data.toList=true)/\ai w w wr) (λi _=>ws.length-(intOf i).toNat)
 case atStart=>exact⟨0,bz _,rfl,λj C=>by omega,aO _ _⟩
 case round=>
  obtain⟨k,hk,rfl,r,q⟩:=hrel;have⟨T,E⟩:=aK r q;by_cases d:k<ws.length
  .obtain⟨b,U,rfl,V,f⟩:=(O.o.below q).slot k d
   have g:=f 0 _ rfl;have F:=HS.o _ (bh ws k d);simp only[bM,Nat.mul_one]at g;have⟨s,p⟩:=aD (ws.getD k ());rw[<-p]at g F;have⟨N,G⟩:=aK (SX s wr (by unfold maxLen;omega)) p;have q1:(0:Int)<=(k:Int):=by omega
   have q2:(k:Int)<(ws.length:Int):=by omega
   clear f r q p F;cases hw:mQ s.data.toList
   .rw[hw]at N
    have W:z=6:=by
     rw[Q.o];unfold fx;rw[aC M,aI];cases e:ws.all (λs=>mQ s.data.toList)
     .rfl
     .have:=(oS _ ws).1 e k d
      rw[<-G.o,hw]at this;cases this
    subst W;clear hw;go_wp2_with fail
    refine aN N.o ?_;intro x H;have A:=au (E.o.trans (H.mono E.o.size));clear H;go_wp2;go_ret;exact⟨rfl,A.o⟩
   .rw[hw]at N
    have X:=au hw;clear hw;go_wp2_with fail
    refine aN N.o ?_;intro x H;have A:=au (E.o.trans (H.mono E.o.size));clear H;go_wp2;go_roundw
    case rel=>exact⟨k+1,by omega,rfl,λj C=>by
     by_cases e:j=k
     .rw[e,<-G.o];exact X.o
     .exact T.o j (by omega),A.o⟩
    case measure=>simp[intOf];omega
  .obtain rfl:k=ws.length:=by omega
   have u:ws.all (λs=>mQ s.data.toList)=true:=(oS _ ws).2 r;have I:=au u;clear r q u;go_wp2_with fail
   go_loopw [5] (λi wr=>∃m:Nat,m<=ws.length/\i=an ar (m+1:Nat)/\(∀j,j<m->j+1<ws.length->Tr (ws.getD j ()) (ws.getD (j+1) ())=true)/\ai w w wr) (λi _=>ws.length+1-(intOf i).toNat)
   case atStart=>exact⟨0,bz _,rfl,λj C=>by omega,E.o⟩
   case round=>
    obtain⟨m,hm',rfl,r,q⟩:=hrel;have⟨T,l⟩:=aK r q;by_cases d:m+1<ws.length
    .obtain⟨b,U,rfl,V,f⟩:=(O.o.below q).slot (m+1) d
     have⟨b',off',J,_,y⟩:=(O.o.below q).slot m (by omega);simp only[bA,dr,et]at J;obtain⟨rfl,rfl⟩:=J;have g:=f 0 _ rfl;have K:=y 0 _ rfl;simp only[bM,Nat.mul_one]at g K;have⟨s,p⟩:=aD (ws.getD (m+1) ());have⟨t,Y⟩:=aD (ws.getD m ());rw[<-p]at g;rw[<-Y]at K;have⟨HC,L⟩:=aK (show∀n,aj prog 89 #[aA t,aA s] (wr.drewN n) λe w'=>e=ax (nX t s:Int)/\(wr.drewN n)=w' fromλn=>zV t s _) (show Tr (ws.getD m ()) (ws.getD (m+1) ())=decide (nX t s<0)by rw[p,Y];rfl);clear f y r q p Y;generalize nX t s=c at*;have q1:(0:Int)<=(m:Int):=by omega
     have q2:(m:Int)<(ws.length:Int):=by omega
     have q3:(m:Int)+1<(ws.length:Int):=by omega
     by_cases B:c<0
     .have hn:¬(0:Int)<=c:=by omega
      go_wp2_with fail
      go_quiet ((go_at_call 89;exact de (HC.o _)));have⟨A,HQ⟩:=aK (l.o.trans ((bo wr nq).aJ.mono l.o.size)) B;clear B;generalize wr.drewN nq=x at*;go_wp2;go_roundw
      case rel=>exact⟨m+1,by omega,rfl,λj C Z=>by
       by_cases e:j=m
       .rw[e,L.o];exact decide_eq_true HQ.o
       .exact T.o j (by omega) Z,A.o⟩
      case measure=>simp[intOf];omega
     .have hn:(0:Int)<=c:=by omega
      have hz7:z=7:=by
       rw[Q.o];unfold fx;rw[aC M,aC (by rw[I.o];simp),aI];cases e:kL Tr ws
       .rfl
       .have:=(j_ Tr ws).1 e m d
        rw[L.o]at this;exact bL (of_decide_eq_true this) B
      subst hz7;clear B;go_wp2_with fail
      go_quiet ((go_at_call 89;exact de (HC.o _)));have A:=au (l.o.trans ((bo wr nq).aJ.mono l.o.size));generalize wr.drewN nq=x at*;go_wp2;go_ret;exact⟨rfl,A.o⟩
    .have hz0:z=0:=by
      rw[Q.o];unfold fx;rw[aC M,aC (by rw[I.o];simp),aC];rw[(j_ Tr ws).2 λj C=>r j (by omega) C];simp
     subst hz0;clear r q;go_wp2;go_ret;exact⟨rfl,l.o⟩
def Ji(a b:Int)(c d:ByteArray)(w:ae):aj prog 90 #[aG #[a,aA c],aG #[b,aA d]] w λe w'=>e=ax (aw (gI ⟨a,c⟩ ⟨b,d⟩))/\ai w w w':=by
 unfold gI;have⟨u,f⟩:=aD ((w.alloc (aB #[a,aA c] 116 (0,0))).alloc (aB #[b,aA d] 116 (0,0)));have⟨h,i,g,s⟩:=rZ f;have⟨k,l⟩:=dk h;have⟨m,n⟩:=dk i;have p:=au (WG a b c d u);generalize Fp ⟨a,c⟩ ⟨b,d⟩=z at*;have⟨q,G⟩:=aK f g;clear f g h i;go_in;go_upto_region 1 with fail
 rw[<-q.o];go_wp2_with fail
 refine aN p.o ?_;intro x j;have r:=au (G.o.aJ.trans (j.mono G.o.size));clear j k l m n;go_wp2;go_ret;exact⟨rfl,r.o⟩
def Sy(k:fI):Bool:=decide (1<=k.len)&&decide (k.len<=12)&&decide (0<=iX k.text.data.toList)&&decide (iX k.text.data.toList<=12)
def oj(ks:List fI):Int:=if 5<ks.length then 3 else if ks.all Sy=false then 2 else if kL gI ks=false then 7 else 0
def Z1(v:ah)(d:List fI)(w:ae)(h:aT fI.cells 2 w v d)(N:∀k∈d,k.text.size<=1000):
 aj prog 61 #[v] w λe w'=>e=ax (oj d:Int)/\ai w w w':=by
 have⟨HR,HS⟩:=aK h N;obtain⟨a,cap,rfl,hm,hc,_⟩:=h;unfold maxLen at hm;clear N;by_cases hl:5<d.length
 .have e:oj d=3:=by unfold oj;rw[aI hl]
  rw[e];clear e;go_in;go_wp2;go_ret;exact⟨rfl,aO _ _⟩
 have⟨z,hz⟩:=aD (oj d);rw[<-hz];have HZ:=au hz;clear hz;go_in;go_wp2_with fail
 go_loopw [12] (λi wr=>∃k:Nat,k<=d.length/\i=an ar k/\(∀j,j<k->Sy (d.getD j ())=true)/\ai w w wr) (λi _=>d.length-(intOf i).toNat)
 case atStart=>exact⟨0,bz _,rfl,λj P=>by omega,aO _ _⟩
 case round=>
  obtain⟨k,hk,rfl,E,C⟩:=hrel;have⟨HA,HB⟩:=aK E C;by_cases r:k<d.length
  .obtain⟨b,off,rfl,hbl,q⟩:=(HR.o.below C).slot k r
   have l:=q 0 _ rfl;have A:=q 1 _ rfl;have hsz:=HS.o _ (bh d k r);simp only[bM]at l;have⟨x,hx⟩:=aD (d.getD k ());rw[<-hx]at l A hsz;have Q:=au hx;have q1:(0:Int)<=(k:Int):=by omega
   have q2:(k:Int)<(d.length:Int):=by omega
   have f:Sy x=(decide (1<=x.len)&&decide (x.len<=12)&&decide (0<=iX x.text.data.toList)&&decide (iX x.text.data.toList<=12)):=rfl;clear q E C hx;have⟨u,hu⟩:=aD (wr.alloc (aB #[x.len,aA x.text] 116 (0,0)));have⟨h1,g,T⟩:=dt hu;have I:=au (SV x.text u (by unfold maxLen;omega));have⟨n,hn⟩:=aD (iX x.text.data.toList);rw[<-hn]at f I;generalize U:Sy x=ok at f;have V:=au U;clear U hn;obtain⟨F,xt⟩:=x;simp only at l A hu h1 f;have⟨c0,c1⟩:=dk h1;have⟨HU,G⟩:=aK hu (HB.o.trans (g.aJ.mono HB.o.size));clear hu h1 g;go_upto_region 6 with fail
   rw[<-HU.o];clear l A;go_wp2_with fail
   refine aN I.o ?_;intro y hy;have d0:=(hy.cell (p:=⟨wr,0,none⟩) T).trans c0;have O:=au (G.o.trans (hy.mono G.o.size));clear hy c0 c1 T;cases ok
   .have hz2:z=2:=by
     rw[HZ.o];unfold oj;rw[aC hl,aI];cases e:d.all Sy
     .rfl
     .have:=(oS _ d).1 e k r
      rw[<-Q.o,V.o]at this;cases this
    subst hz2;have K:F<1∨(¬F<1/\12<F)∨(¬F<1/\¬12<F/\n<0)∨(¬F<1/\¬12<F/\¬n<0/\12<n):=by
     simp at f;omega
    clear f;obtain H|⟨H,J⟩|⟨H,J,t3⟩|⟨H,J,t3,t4⟩:=K
    all_goals
     go_wp2;go_ret;exact⟨rfl,O.o⟩
   .have K:¬F<1/\¬12<F/\¬n<0/\¬12<n:=by
     simp at f;omega
    clear f;obtain⟨H,J,t3,t4⟩:=K;go_wp2;go_roundw
    case rel=>exact⟨k+1,by omega,rfl,λj P=>by
     by_cases e:j=k
     .rw[e,<-Q.o];exact V.o
     .exact HA.o j (by omega),O.o⟩
    case measure=>simp[intOf];omega
  .obtain rfl:k=d.length:=by omega
   have W:=au (show d.all Sy=true from(oS _ d).2 E);clear E C;go_wp2_with fail
   go_loopw [6] (λi wr'=>∃m:Nat,m<=d.length/\i=an ar (m+1:Nat)/\(∀j,j<m->j+1<d.length->gI (d.getD j ()) (d.getD (j+1) ())=true)/\ai w w wr') (λi _=>d.length+1-(intOf i).toNat)
   case atStart=>exact⟨0,bz _,rfl,λj P=>by omega,HB.o⟩
   case round=>
    obtain⟨m,hm',rfl,E,C⟩:=hrel;have⟨HA,L⟩:=aK E C;by_cases r:m+1<d.length
    .obtain⟨b,off,rfl,hbl,q⟩:=(HR.o.below C).slot (m+1) r
     have⟨b',off',X,_,B⟩:=(HR.o.below C).slot m (by omega);simp only[bA,dr,et]at X;obtain⟨rfl,rfl⟩:=X;have l:=q 0 _ rfl;have A:=q 1 _ rfl;have M:=B 0 _ rfl;have Y:=B 1 _ rfl;simp only[bM]at l M;have⟨s,N⟩:=aD (d.getD (m+1) ());have⟨t,ht⟩:=aD (d.getD m ());rw[<-N]at l A;rw[<-ht]at M Y;have Z:gI (d.getD m ()) (d.getD (m+1) ())=gI t s:=by rw[N,ht]
     obtain⟨s1,s2⟩:=s;obtain⟨H,J⟩:=t;simp only at l A M Y;have HC:=au (show∀u,aj prog 90 #[aG #[H,aA J],aG #[s1,aA s2]] u λe w'=>e=ax (aw (gI ⟨H,J⟩ ⟨s1,s2⟩))/\ai u u w' fromλu=>Ji H s1 J s2 u);clear q B E C N ht;generalize gI ⟨H,J⟩ ⟨s1,s2⟩=c at*;have HST:=au Z;clear Z;have q1:(0:Int)<=(m:Int):=by omega
     have q2:(m:Int)<(d.length:Int):=by omega
     have q3:(m:Int)+1<(d.length:Int):=by omega
     cases c
     .have hz7:z=7:=by
       rw[HZ.o];unfold oj;rw[aC hl,aC (by rw[W.o];simp),aI];cases e:kL gI d
       .rfl
       .have:=(j_ gI d).1 e m r
        rw[HST.o]at this;cases this
      subst hz7;go_wp2_with fail
      refine cD (by kernel_rfl) (by kernel_rfl) ?_
      repeat (go_big_quiet_step (first|(go_at_call 90;exact cH (HC.o _))|fail))
      refine eV ?_;rintro _ ⟨u,rfl⟩;have O:=au (gR L.o (aP _) u);go_wp2;go_ret;exact⟨rfl,O.o⟩
     .go_wp2_with fail
      refine cD (by kernel_rfl) (by kernel_rfl) ?_
      repeat (go_big_quiet_step (first|(go_at_call 90;exact cH (HC.o _))|fail))
      refine eV ?_;rintro _ ⟨u,rfl⟩;have O:=au (gR L.o (aP _) u);go_wp2;go_roundw
      case rel=>exact⟨m+1,by omega,rfl,λj P hj2=>by
       by_cases e:j=m
       .rw[e,HST.o]
       .exact HA.o j (by omega) hj2,O.o⟩
      case measure=>simp[intOf];omega
    .have hz0:z=0:=by
      rw[HZ.o];unfold oj;rw[aC hl,aC (by rw[W.o];simp),aC];rw[(j_ gI d).2 λj P=>E j (by omega) P];simp
     subst hz0;clear E C;go_wp2;go_ret;exact⟨rfl,L.o⟩
abbrev aY:=Int×ByteArray
def rK(x:aY):List ah:=[an ar x.1,aA x.2]
def rL(a b:aY):Int:=I7 (jJ a.1 b.1) (nX a.2 b.2)
def cR(a b:aY):Bool:=decide (rL a b<0)
def Ts(c d:Int)(a b:ByteArray)(w:ae):aj prog 184 #[aG #[c,aA a],aG #[d,aA b]] w λe w'=>e=ax (rL (c,a) (d,b):Int)/\ai w w w':=by
 have h:rL (c,a) (d,b)=I7 (jJ c d) (nX a b):=rfl;rw[h];have i:∀u,aj prog 89 #[aA a,aA b] u λe w'=>e=ax (nX a b:Int)/\u=w':=λu=>zV a b u
 have j:=λu=>zt c d u
 have k:∀(u:ae),aj prog 138 #[av (some ⟨u,0,none⟩) 2 2] (u.alloc (aB #[an ar (jJ c d),an ar (nX a b)] 3 (0,0))).drew λe w'=>e=ax (I7 (jJ c d) (nX a b):Int)/\(u.alloc (aB #[an ar (jJ c d),an ar (nX a b)] 3 (0,0))).drew=w':=λu=>orC _ _ _ _ (a_ _ _)
 generalize I7 (jJ c d) (nX a b)=z3 at*;generalize jJ c d=z1 at*;generalize nX a b=z2 at*;have⟨u,f⟩:=aD ((w.alloc (aB #[c,aA a] 83 (0,0))).alloc (aB #[d,aA b] 83 (0,0)));have⟨l,m,g,s⟩:=rZ f;have⟨t,v⟩:=dk l;have⟨x,y⟩:=dk m;have⟨n,p,q,r,G⟩:=iI j i k f g;clear j i k h f g l m;go_in;go_wp2_with fail
 rw[<-r.o];go_region_held3 (λw'=>w'.cell? w.heap.size=c/\w'.cell? ⟨w,1,none⟩=some (aA a)/\w'.cell? ⟨w.heap.size+1,0,none⟩=d/\w'.cell? ⟨w.heap.size+1,1,none⟩=some (aA b)) (go_keep) (first
  |(go_at_call 139;(with_reducible refine aH (n.o _) ?_))
  |(go_at_call 89;(with_reducible refine aH (p.o _) ?_))
  |(go_at_call 138;(with_reducible refine aH (q.o _) ?_)))
 all_goals
  go_wp2_with fail
  go_ret;exact⟨rfl,((G.o.alloc _).trans (aQ.refl _ _).drew).aJ⟩
def oT(a b:Int)(c d:ByteArray)(w:ae):aj prog 167 #[aG #[a,aA c],aG #[b,aA d]] w λe w'=>e=ax (aw (cR (a,c) (b,d)))/\ai w w w':=by
 unfold cR;have⟨u,f⟩:=aD ((w.alloc (aB #[a,aA c] 83 (0,0))).alloc (aB #[b,aA d] 83 (0,0)));have⟨h,i,g,s⟩:=rZ f;have⟨k,l⟩:=dk h;have⟨m,n⟩:=dk i;have p:=au (Ts a b c d u);generalize rL (a,c) (b,d)=z at*;have⟨q,G⟩:=aK f g;clear f g h i;go_in;go_upto_region 1 with fail
 rw[<-q.o];go_wp2_with fail
 refine aN p.o ?_;intro x j;have r:=au (G.o.aJ.trans (j.mono G.o.size));clear j k l m n;go_wp2;go_ret;exact⟨rfl,r.o⟩
def kM{P:Program}{b:Array Oper}{o:Oper}{a:Act}{K:Act->ae->Prop}{Q:Exit->Act->ae->Prop}{E:Prop}(h:o.guard=none)(s x:Operand)(t:TypeId)
 (i:o.op=.call {callee:=.builtin .append,args:= #[s,x],argTypes:= #[t,t]}) (v d e:ah) (f:ae) (hs:a.eval s=v) (j:a.eval x=d)
 (c:(Builtin.append_ #[t,t] o.type #[v,d]).run P w=.ok e f) (k:K (a.put o.dst e) f):if Region.wanted o (yielded b a.tmps)=true then Oper.wp P o a w K Q else E:=by
 have l:Region.wanted o (yielded b a.tmps)=true:=by simp[Region.wanted,h]
 rw[aI l];unfold Oper.wp;simp[execOp,i,resolve,invoke,builtin,hs,j,c,Result.andThen];exact k
def oC(u:ae)(l:List ah)(t:TypeId)(j:Nat)(y:ah)(h:l[j]? =some y):(u.alloc (aB l.toArray t)).cell? ((⟨u,0,none⟩:Addr).add j)=some y:=by
 have a:=a_ u (aB l.toArray t);have e:(⟨u,0,none⟩:Addr).add j=⟨u,j,none⟩:=by cases j<;>simp[Addr.add]
 rw[e];generalize u.alloc (aB l.toArray t)=x at a;simp[World.cell?,a,h]
def Tt{w':ae}{v:ah}{a next:Int}{b:List GM}{S:List Nat}(h:sw w p g v a next b)(c:aQ S w w')(d:∀x∈dG p g b,x∉S):sw w' p g v a next b:=
 h.kept (Kept.dC c h.lt d)
def Jj{v:ah}{a next:Int}{b:List GM}(h:sw w p g v a next b):p∉g.toList/\p∉b.filterMap GM.fb:=by
 have:=h.d;simp only[dG,ji,dJ,not_or]at this;exact this.1
def sw.turn{v:ah}{a next:Int}{e:List GM}(h:sw w p g v a next e)(q:next<1000000000):sw (w.setCell ⟨p,1,none⟩ (next+1:Int)) p g v a (next+1) e:=by
 have j:aQ [p] w (w.setCell ⟨p,1,none⟩ (next+1:Int)):=(aQ.refl _ _).setCell _ (by simp) _;have⟨n,o⟩:=Jj h;refine⟨by simpa using aE (i:=1) h.c (next+1:Int),h.s.bH j λx b=> ?_,λm k=>(h.f m k).bH j λx b=> ?_,h.d,h.m1,h.m2,by have:=h.n1;omega,by omega,h.l⟩
 .simp only[cm]
  rintro rfl;exact n (by simp[b])
 .simp only[cm]
  rintro rfl;exact o (List.mem_filterMap.2 ⟨m,k,b⟩)
def Jk{w:ae}{p:Nat}{g:Option Nat}{v:ah}(m:GM){a:Option Addr}{n c:Nat}(d:m.fv=av a n c):∀u∈m.cells,u.oneCell'=true:=by
 intro u b;simp only[GM.cells,bQ,ez,or_false]at b;obtain rfl|rfl|rfl|rfl|rfl:=b
 .rfl
 .rfl
 .rfl
 .rw[d];rfl
 .rfl
def sw.grow{z:ae}{v:ah}{q next:Int}{C:List GM}(h:sw z p g v q next C)(m:GM)(M:Seg z 5 1 m.fb m.fv (lJ m.g.fr) m.g.fr.length)
 (E:∀x,m.fb=some x->x∉dG p g C) (hl:(C.length:Int)<q):
 ∃v' t g',(∀ty,(Builtin.append_ #[166,166] ty #[v,av (some ⟨z,0,none⟩) 1 1]).run prog (z.alloc (aB m.cells.toArray 193 (0,0)))=.ok v' t)/\
  sw (t.setCell ⟨p,2,none⟩ v') p g' v' q next (C++ [m])/\aQ (p::g.toList) z (t.setCell ⟨p,2,none⟩ v')/\(∃y,t.cell? ⟨p,2,none⟩=some y)/\t.frozen? ⟨p,2,none⟩=false/\p<t/\(g'=g∨∃x,g'=some x/\z.heap.size<x):=by
 have⟨i0,hi,N,O,Q⟩:=info_parts Jh;have Z:aQ ([]:List Nat) z (z.alloc (aB m.cells.toArray 193 (0,0))):=(aQ.refl _ _).alloc _;have T:=h.m2;obtain⟨ma,mn,mc,U⟩:∃a n c,m.fv=av a n c:=by
  have⟨a,c,e,_⟩:=M.len;exact⟨a,_,c,e⟩
 have⟨v',t,g',F,G,H,B,_⟩:=(h.s.bH Z (by simp)).append (P:=prog) 166 i0 (aG #[an ar 0,an ar 0,an ar 0,(),aw false]) 56 underlying166 hi N O Q rfl (by decide)
  ⟨z,0,none⟩ 1 1 (by decide) m.cells rfl (λj y hj=>by exact oC z _ _ j y hj) (Jk (w:=z) (p:=p) (g:=g) (v:=v) m U) (by unfold maxLen;omega) (by omega)
 have⟨n1,n2⟩:=Jj h;have L:=(Z.mono (by simp)).trans H;have u:=L.at h.c n1;have o:aQ [p] t (t.setCell ⟨p,2,none⟩ v'):=(aQ.refl _ _).setCell _ (by simp) _;have hzp:=az h.c;have I:∀x,g'=some x->x≠p:=by
  rintro x b rfl;obtain e|⟨y,e,r⟩:=B
  .exact n1 (by rw[<-e,b];simp)
  .rw[b]at e;injection e with e;simp at r;omega
 have V:∀x,g'=some x->g=some x∨z.heap.size<x:=by
  intro x b;obtain e|⟨y,e,r⟩:=B
  .exact .inl (by rw[<-e];exact b)
  .rw[b]at e;injection e with e;simp at r;exact .inr (by omega)
 have J:=h.d;simp only[dG,ji,List.nodup_append]at J;obtain⟨hd1,hd2,W,K⟩:=J;have X:∀x∈C.filterMap GM.fb,x<z.heap.size:=λx b=>h.lt x (by simp[dG]at b⊢;exact .inr (.inr b))
 have Y:∀x,g'=some x->x∉(C++ [m]).filterMap GM.fb:=by
  intro x b l;rw[List.filterMap_append,dJ]at l;obtain e|e:=V x b
  .obtain l|l:=l
   .exact K x (by simp[e]) x l rfl
   .simp at l
    exact E x l (by simp[dG,e])
  .obtain l|l:=l
   .have:=X x l;omega
   .simp at l
    have:=M.lt x l;omega
 refine⟨v',t,g',F,⟨by simpa using aE (i:=2) u v',?_,λk A=> ?_,?_,h.m1,T,h.n1,h.n2,by simp;omega⟩,(L.mono λx b=>du _ b).trans (o.mono (by simp)),⟨v,aF u _ rfl⟩,bB u _,az u,?_⟩
 .rw[WS,bF]
  refine G.bH o λx b=> ?_
  simp only[cm];exact I x b
 .obtain A|A:=List.mem_append.1 A
  .refine((h.f k A).bH L λx b e=> ?_).bH o λx b e=> ?_
   .exact K x e x (List.mem_filterMap.2 ⟨k,A,b⟩) rfl
   .simp only[cm]at e
    subst e;exact n2 (List.mem_filterMap.2 ⟨k,A,b⟩)
  .simp only[cm]at A
   subst A;refine(M.bH L λx b e=> ?_).bH o λx b e=> ?_
   .exact E x b (by simp[dG];exact .inr (.inl (by simpa using e)))
   .simp only[cm]at e
    subst e;exact E _ b (by simp[dG])
 .simp only[dG,ji,List.nodup_append,dJ,not_or]
  refine⟨⟨λe=>I p (by simpa using e) rfl,λe=> ?_⟩,by cases g'<;>simp,?_,λx b y r e=> ?_⟩
  .rw[List.filterMap_append,dJ]at e
   obtain e|e:=e
   .exact n2 e
   .simp at e
    exact E p e (by simp[dG])
  .rw[List.filterMap_append,List.nodup_append]
   refine⟨W,by cases hmf:m.fb<;>simp[hmf],λx b y r e=> ?_⟩;subst e;simp at r;exact E x r (by simp[dG]at b⊢;exact .inr (.inr b))
  .subst e
   exact Y x (by simpa using b) r
 .obtain e|⟨y,e,r⟩:=B
  .exact .inl e
  .exact .inr ⟨y,e,by simp at r;omega⟩
def pI{P:Program}{c:Array Oper}{o:Oper}{a:Act}{K:Act->ae->Prop}{Q:Exit->Act->ae->Prop}{E:Prop}(m:o.guard=none)(f:FuncId){fn:Func}(n:P.funcs[f]? =some fn)(b:(fn.name== "runtime.NumGoroutine")=false)(l:fn.body.isNone=false){x:Operand}{t:TypeId}
 (q:o.op=.call {callee:=.value (.func f),args:= #[x],argTypes:= #[t]}) (v:ah) (r:a.eval x=v) {R:ak->ae->Prop}
 (s:aj P f #[v] w R) (u:∀e d,R e d->∃h,e=ax h/\K (a.put o.dst h) d):if Region.wanted o (yielded c a.tmps)=true then Oper.wp P o a w K Q else E:=by
 have y:Region.wanted o (yielded c a.tmps)=true:=by simp[Region.wanted,m]
 rw[aI y];unfold Oper.wp;have z:(execOp a.eval o).run P w=.ok (.enter f #[v]) w:=by
  have i:a.eval (.func f)=.func (.func f) #[] #[]:=rfl;have j:fn.name≠ "runtime.NumGoroutine" :=by simpa using b
  have k:fn.body≠none:=by intro e;rw[e]at l;cases l
  simp[execOp,q,resolve,invoke,r,i,Deferred.ofValue,callFunc,run_program,n,j,k]
 rw[z,Oper.upon_enter];refine s.mono λe d A=> ?_
 obtain⟨h,rfl,B⟩:=u e d A;exact B
def sx(most:Int)(L:List GV)(x:GV):List GV:=if(L.length:Int)<most then L++ [x]else L
def Z2{y:ae}{v:ah}{a next:Int}{b:List GM}(h:sw y p g v a next b){c:Option Nat}(d:∀x,c=some x->y.heap.size<=x):∀x,c=some x->x∉dG p g b:=λx f e=>by
 have:=h.lt x e;have:=d x f;omega
def Qe{B:Nat}{F:List Nat}{y z:ae}{H:ah}{b next:Int}{d:List GM}(h:sw y p g H b next d)(r:∀x∈dG p g d,B<=x)(n:B<=y)(hF:∀x∈F,x<y.heap.size/\x∉dG p g d)
 (L:(d.length:Int)<b) (c:GV) {v':ah} {u:Option Nat} (I:Seg z 5 1 u v' (lJ c.fr) c.fr.length) (v:∀x,u=some x->y.heap.size<=x) (f:ai y y z):
 ∃fa fc l m t,v'=av fa c.fr.length fc/\
  (∀M,(Builtin.append_ #[166,166] M #[H,av (some ⟨z,0,none⟩) 1 1]).run prog (z.alloc (aB #[c.id,c.lh,c.tO,av fa c.fr.length fc,aw c.sp] 193 (0,0)))=.ok (av l (d.length+1) m) t)/\
  (∃q,t.cell? ⟨p,2,none⟩=some q)/\t.frozen? ⟨p,2,none⟩=false/\p<t/\
  NF B F (t.setCell ⟨p,2,none⟩ (av l (d.length+1) m)) p b next (d.map GM.g++ [c])/\ai B y (t.setCell ⟨p,2,none⟩ (av l (d.length+1) m))/\Kept F y (t.setCell ⟨p,2,none⟩ (av l (d.length+1) m)):=by
 obtain⟨fa,fc,rfl,_⟩:=I.len;have N:=Tt h (aQ.of_below (S:=[]) f) (by simp);have A:=Z2 h v;have⟨T,t,O,j,C,J,E,G,P,K⟩:=N.grow ⟨c,av fa c.fr.length fc,u⟩ I A L;have⟨l,m,Q,_⟩:=C.s.len;subst Q;simp only[bF,List.length_singleton]at j C J;have i:=(aQ.of_below f).trans J;have k:∀x∈p::g.toList,x∈dG p g d:=λx a=>by
  simp only[dG,bQ,dJ]at a⊢;obtain a|a:=a
  .exact .inl a
  .exact .inr (.inl a)
 refine⟨fa,fc,l,m,t,rfl,j,E,G,P,⟨O,_,_,C,by simp,?_,bD n i.size,λx a=>⟨bP (hF x a).1 i.size,?_⟩⟩,i.below (λx a=>r x (k x a)) n,Kept.dC i (λx a=>(hF x a).1) (λx a e=>(hF x a).2 (k x e))⟩
 .intro x a
  simp only[dG,bQ,dJ,List.filterMap_append,eZ]at a;obtain rfl|a|a|a:=a
  .exact r _ (by simp[dG])
  .obtain e|⟨q,e,E⟩:=K
   .exact r x (by simp[dG,<-e,a])
   .rw[a]at e;injection e with e
    have:=f.size;omega
  .exact r x (by simp[dG]at a⊢;exact .inr (.inr a))
  .simp at a
   have:=v x a;omega
 .intro e
  simp only[dG,bQ,dJ,List.filterMap_append,eZ]at e;have U:=(hF x a).1;obtain rfl|e|e|e:=e
  .exact(hF _ a).2 (by simp[dG])
  .obtain o|⟨q,o,E⟩:=K
   .exact(hF _ a).2 (by simp[dG,<-o,e])
   .rw[e]at o;injection o with o
    have:=f.size;omega
  .exact(hF _ a).2 (by simp[dG]at e⊢;exact .inr (.inr e))
  .simp at e
   have:=v x e;omega
def Mz{w':ae}{q:ah}{e next:Int}{r:List GM}{v:ah}{bs:List Int}(t:dc w .u8 v bs)(h:sw w p g q e next r)(n:aQ [p] w w'):dc w' .u8 v bs:=by
 obtain⟨a,l,rfl,u,x,y⟩:=t;refine⟨a,l,rfl,u,x,λi z=> ?_⟩;obtain⟨b,f,rfl,o,d⟩:=y i z;have m:b≠p:=by
  rintro rfl;have⟨B,cl,A,_⟩:=h.s.len;have j:=h.c;rw[A]at j;simp only[World.cell?,j]at d
  match f+i,d with
  |0,d=>simp at d
  |1,d=>simp at d
  |2,d=>simp at d
  |k+3,d=>simp at d
 exact⟨b,f,rfl,bP o n.size,(cU (n.block b o (by simpa using m))).trans d⟩
def adg{B:Nat}{F:List Nat}{a next:Int}{L:List GV}(h:NF B F w p a next L)(hnx:next<1000000000)(A tt:Int)(v:ah)(bs:List Int)(hr:dc w .u8 v bs)(hbs:bs.length<=100000):
 aj prog 96 #[p,A,tt,v] w λe w'=>e=ax (aM #[next,aw (decide ((L.length:Int)<a))])/\
  NF B F w' p a (next+1) (sx a L ⟨next,A,tt,bs,false⟩)/\ai B w w'/\Kept F w w':=by
 have H:=au h;obtain⟨g,vl,M,C,rfl,Z,E,hF⟩:=h;have h1:=C.c;obtain⟨al,cl,rfl,hn1,hm⟩:=C.s.len;have⟨c0,c1,c2⟩:=oN h1;have f1:=bB h1 1;have hp:=az h1;have n1:=C.n1;have hll:=C.l;unfold maxLen at hm;have k:=C.turn hnx;have gt:aQ [p] w (w.setCell ⟨p,1,none⟩ (next+1:Int)):=(aQ.refl _ _).setCell _ (by simp) _;have⟨u,hu⟩:=aD (w.setCell ⟨p,1,none⟩ (next+1:Int));rw[<-hu]at k gt;have⟨HU,N,GT,HN,HR⟩:=iI hu k gt C hr;have G:=k.c;have k0:=aF G 0 rfl;have k2:=aF G 2 rfl;clear C h1 hu k gt hr G;go_in;go_upto_region 5 with fail
 rw[<-HU.o];go_quiet (fail)
 all_goals
  have gy:aQ ([]:List Nat) u (u.drewN nq):=bo _ _;have I:=N.o.kept (Kept.dC gy N.o.lt (by simp));have J:=au (GT.o.trans (gy.mono (by simp)));clear gy k0 k2;generalize u.drewN nq=y at*;have G:=I.c;have k2:=aF G 2 rfl;have O:=az G;have⟨P,Q,T⟩:=aX I (bD E J.o.size) (λx b=>(⟨bP (hF x b).1 J.o.size,(hF x b).2⟩:x<y.heap.size/\x∉dG p g M));clear G I;by_cases d:(M.length:Int)<a
  .have hne:¬(M.length:Int)=a:=by omega
   have U:=Mz HR.o HN.o J.o;have V:=uU v bs y.drew U.drew (by omega);have HC:=au V;clear V U;go_upto_region 7 with fail
   go_region_law (first
    |(refine pI (x:=.tmp 43) (t:=188) (by rfl) 101 func101 (by kernel_rfl) (by kernel_rfl) (by rfl) v (by kernel_rfl) HC.o ?_;rintro e z ⟨v',rfl,g',s',W,m⟩;refine⟨_,rfl,?_⟩;have kz:=(m.cell O).trans k2;have hpz:=bP O m.size;obtain⟨fa,fc,va,vc,t,rfl,n,⟨q,hq⟩,hfz,hpt,r⟩:=Qe P.o Z Q.o T.o d ⟨next,A,tt,bs,false⟩ s' W ⟨m.os,m.tape,m.output,m.size,m.block⟩;have X:=au n;have f:=au r;clear n r s' m W)
    |(refine kM (by rfl) (.tmp 39) (.tmp 46) 166 (by rfl) _ _ _ t (by rfl) (by rfl) (X.o _) ?_)
    |fail)
   all_goals
    have i:=J.o.below (λx b=>by simp only[cm]at b;subst b;exact Z _ (by simp[dG])) E;have j:=Kept.dC J.o (λx b=>(hF x b).1) (λx b e=>(hF x b).2 (by simp only[cm]at e;subst e;simp[dG]));have K:=au (And.intro f.o.1 (And.intro (i.trans f.o.2.1) (j.trans f.o.2.2)));clear i j;go_wp2_with fail
    go_ret2;refine⟨by simp[d],?_,K.o.2.1,K.o.2.2⟩;unfold sx;rw[aI (by simpa using d)];exact K.o.1
  .have heq:(M.length:Int)=a:=by omega
   have Y:NF B F y p a (next+1) (M.map GM.g):=⟨g,_,M,P.o,rfl,Z,Q.o,T.o⟩;have HQ:=au Y;have i:=J.o.below (λx b=>by simp only[cm]at b;subst b;exact Z _ (by simp[dG])) E;have j:=Kept.dC J.o (λx b=>(hF x b).1) (λx b e=>(hF x b).2 (by simp only[cm]at e;subst e;simp[dG]));have⟨HB2,HK2⟩:=aK i j;clear Y i j;go_wp2_with fail
   go_ret2;refine⟨by simp[d],?_,HB2.o,HK2.o⟩;unfold sx;rw[aC (by simpa using d)];exact HQ.o
def cE{P:Program}{b:Array Oper}{rest:List Oper}{o:Oper}{a:Act}{Q:Exit->Act->ae->Prop}(g:o.guard=none)(s x:Operand)(t:TypeId)
 (i:o.op=.call {callee:=.builtin .append,args:= #[s,x],argTypes:= #[t,t]}) (v d f:ah) (w':ae) (hs:a.eval s=v) (j:a.eval x=d)
 (c:(Builtin.append_ #[t,t] o.type #[v,d]).run P w=.ok f w') (h:wpList P b Q rest (a.put o.dst f) w'):wpList P b Q (o::rest) a w:=
 wpList_plain g λ_ k=>by
  unfold Oper.wp;simp[execOp,i,resolve,invoke,builtin,hs,j,c,Result.andThen];exact k _ _ h
def Own(B e sz:Nat)(w:ae)(v:ah)(cs:List ah)(n:Nat):Prop:=w.ownsRow B e sz v n cs
def Own.nil(B e sz:Nat)(w:ae):Own B e sz w () [] 0:=World.ownsRow_nil _ _ _ _
variable{e n:Nat}
def Own.bH{sz:Nat}{v:ah}{cs:List ah}(h:Own B e sz w v cs n)(d:aQ ([]:List Nat) w w'):Own B e sz w' v cs n:=by
 obtain⟨c,h|⟨g,a,b,f,i,j,r⟩⟩:=h
 .exact⟨c,.inl h⟩
 .exact⟨c,.inr ⟨g,a,b,f,i,d.at j (by simp),r⟩⟩
def Own.below{sz:Nat}{v:ah}{cs:List ah}(h:Own B e sz w v cs n)(a:ai w w w'):Own B e sz w' v cs n:=h.bH (aQ.of_below a)
def Own.mono{B' sz:Nat}{v:ah}{cs:List ah}(h:Own B e sz w v cs n)(d:B'<=B):Own B' e sz w v cs n:=by
 obtain⟨c,h|⟨g,a,b,f,i,r⟩⟩:=h
 .exact⟨c,.inl h⟩
 .exact⟨c,.inr ⟨g,a,b,f,bD d i,r⟩⟩
def Own.Cs{sz:Nat}{v:ah}{cs:List ah}(h:Own B e sz w v cs n):∃g,Seg w e sz g v cs n/\∀b,g=some b->B<=b:=Seg.zu h
def Own.len{sz:Nat}{v:ah}{cs:List ah}(h:Own B e sz w v cs n):∃a b,v=av a n b/\n<=b/\n<=maxLen:=by
 have⟨g,c,_⟩:=h.Cs;exact c.len
def Own.cell{sz:Nat}{v:ah}{cs:List ah}(h:Own B e sz w v cs n)(f:0<sz)(i:Nat)(k:i<n):∃b a c,v=av (some ⟨b,a,none⟩) n c/\B<=b/\b<w.heap.size/\
 ∀j u,j<sz->cs[i*sz+j]? =some u->w.cell? ⟨b,a+i*sz+j,none⟩=some u/\w.frozen? ⟨b,a+i*sz+j,none⟩=false:=by
 have⟨g,d,l⟩:=h.Cs;have⟨b,a,c,m,o,p,q⟩:=d.cell f i k;exact⟨b,a,c,o,l b m,p,q⟩
def Seg.push{sz:Nat}{g:Option Nat}{v:ah}{cs:List ah}(h:Seg w e sz g v cs n)(t:TypeId){z:ah}{bytes:Nat}(C:prog.underlying t=some (.slice e))
 (c:(prog.info? e).map (λi=>(i.zero,i.size,i.bytes))=some (some z,sz,bytes)) (l:z.cells.size=sz) (m:0<sz) (a:List ah) (K:a.length=sz) (E:∀u∈a,u.oneCell'=true) (L:n<=1000000) (o:bytes<=1000000):
 ∃v' w' g',(∀F,(Builtin.append_ #[t,t] F #[v,av (some ⟨w,0,none⟩) 1 1]).run prog (w.alloc (aB a.toArray e (0,0)))=.ok v' w')/\Seg w' e sz g' v' (cs++a) (n+1)/\aQ g.toList w w'/\(g'=g∨∃b,g'=some b/\w.heap.size<=b):=by
 have⟨G,H,p,q,r⟩:=info_parts c;have s:aQ ([]:List Nat) w (w.alloc (aB a.toArray e (0,0))):=(aQ.refl _ _).alloc _;have x:(n+1)*bytes<=140737488355328:=bD (Nat.mul_le_mul (show n+1<=1000001 by omega) o) (by decide);have⟨v',I,g',d,f,k,A,_⟩:=(h.bH s (by simp)).append (P:=prog) t G z bytes C H p q r l m ⟨w,0,none⟩ 1 1 (by decide) a (by omega) (λj y J=>by exact oC w _ _ j y J) E (by unfold maxLen;omega) x;refine⟨v',I,g',d,f,(s.mono (by simp)).trans k,?_⟩;obtain e|⟨b,e,x⟩:=A
 .exact .inl e
 .exact .inr ⟨b,e,bD s.size x⟩
def Below.grow{a:Option Nat}(b:w.grownBy w' a)(c:∀x,a=some x->B<=x)(d:B<=w):ai B w w':=(aO B w).grown b d (λj f=>c j f)
def Own.push{sz:Nat}{v:ah}{cs:List ah}(h:Own B e sz w v cs n)(t:TypeId){z:ah}{bytes:Nat}(A:prog.underlying t=some (.slice e))
 (d:(prog.info? e).map (λi=>(i.zero,i.size,i.bytes))=some (some z,sz,bytes)) (g:z.cells.size=sz) (k:0<sz) (b:List ah) (N:b.length=sz) (C:∀u∈b,u.oneCell'=true) (O:n<=1000000) (l:bytes<=1000000) (m:B<=w):
 ∃a c w',(∀E,(Builtin.append_ #[t,t] E #[v,av (some ⟨w,0,none⟩) 1 1]).run prog (w.alloc (aB b.toArray e (0,0)))=.ok (av a (n+1) c) w')/\Own B e sz w' (av a (n+1) c) (cs++b) (n+1)/\ai B w w':=by
 have⟨F,G,o,p,q⟩:=info_parts d;have f:aQ ([]:List Nat) w (w.alloc (aB b.toArray e (0,0))):=(aQ.refl _ _).alloc _;have H:(n+1)*bytes<=140737488355328:=bD (Nat.mul_le_mul (show n+1<=1000001 by omega) l) (by decide);have⟨I,r,J,s,K,_⟩:=run_append_own (P:=prog) (w:=w.alloc (aB b.toArray e (0,0))) B t 0 e F z sz bytes A G o p q g k v n cs (h.bH f) ⟨w,0,none⟩ 1 1 b (by omega) (λj y L=>by exact oC w _ _ j y L) C (by unfold maxLen;omega) H (bD m f.size);obtain⟨a,c,rfl,_⟩:=Own.len (show Own B e sz r I (cs++b) (n+1)from s);refine⟨a,c,r,λ_=>J,s,(f.below (by simp) m).trans (Below.grow K (λx M=> ?_) (bD m f.size))⟩;exact(World.ownsRow.lt h x M).1
def sI(xs:List Int):List ah:=xs.map (Value.int .i64)
def dX(x:Int):List ah:=[an ar x]
theorem aT.sJ{g:Type}[Inhabited g]{f:g->List ah}{sz:Nat}{v:ah}{xs:List g}(h:Own B e sz w v (xs.flatMap f) xs.length)(r:∀x,(f x).length=sz)(o:0<sz):aT f sz w v xs:=by
 obtain⟨a,p,rfl,z,A⟩:=h.len;refine⟨a,p,rfl,A,z,λi c=> ?_⟩;have⟨b,q,s,t,_,k,C⟩:=h.cell o i c;simp only[bG,bK]at t;obtain⟨rfl,rfl⟩:=t;have d:∀(L:List g) (i j:Nat),i<L.length->j<sz->(L.flatMap f)[i*sz+j]? =(f (L.getD i ()))[j]? :=by
  intro L
  induction L with
  |nil=>intro i j c;simp at c
  |cons a l E=>
   intro i j c m;have e:(a::l).flatMap f=f a++l.flatMap f:=by simp
   have k:=r a;cases i with
   |zero=>
    rw[e,Nat.zero_mul,eJ,gZ (by omega)];rfl
   |succ i=>
    rw[e,g_ (by rw[k,Nat.add_mul];omega),k,show(i+1)*sz+j-sz=i*sz+j by rw[Nat.add_mul];omega,E i j (by simpa using c) m];rfl
 refine⟨b,q,rfl,k,λj u y=> ?_⟩;have m:j<sz:=by rw[<-r (xs.getD i ())];exact(List.getElem?_eq_some_iff.1 y).1
 exact(C j u m ((d xs i j c m).trans y)).1
def tQ:(prog.info? 3).map (λi=>(i.zero,i.size,i.bytes))=some (some (an ar 0),1,8):=by kernel_rfl
def Af:(prog.info? 9).map (λi=>(i.zero,i.size,i.bytes))=some (some (aA ByteArray.empty),1,16):=by kernel_rfl
def fU(B:Nat)(w:ae)(v:ah)(xs:List Int):Prop:=Own B 3 1 w v (xs.flatMap dX) xs.length
def mI(B:Nat)(w:ae)(v:ah)(ws:List ByteArray):Prop:=Own B 9 1 w v (ws.flatMap oR) ws.length
def fU.push{v:ah}{xs:List Int}(h:fU B w v xs)(x:Int)(b:xs.length<=1000000)(d:B<=w):
 ∃a c w',(∀f,(Builtin.append_ #[43,43] f #[v,av (some ⟨w,0,none⟩) 1 1]).run prog (w.alloc (aB #[(x:Int)] 3 (0,0)))=.ok (av a (xs.length+1) c) w')/\fU B w' (av a (xs.length+1) c) (xs++ [x])/\ai B w w':=by
 have⟨a,c,w',g,i,j⟩:=Own.push h 43 underlying43 tQ rfl (by decide) [an ar x] rfl (by simp[Value.oneCell']) b (by decide) d;refine⟨a,c,w',g,?_,j⟩;unfold fU;rw[fQ,bF];exact i
def mI.push{v:ah}{xs:List ByteArray}(h:mI B w v xs)(x:ByteArray)(b:xs.length<=1000000)(d:B<=w):
 ∃a c w',(∀f,(Builtin.append_ #[22,22] f #[v,av (some ⟨w,0,none⟩) 1 1]).run prog (w.alloc (aB #[aA x] 9 (0,0)))=.ok (av a (xs.length+1) c) w')/\mI B w' (av a (xs.length+1) c) (xs++ [x])/\ai B w w':=by
 have⟨a,c,w',g,i,j⟩:=Own.push h 22 underlying22 Af rfl (by decide) [aA x] rfl (by simp[Value.oneCell']) b (by decide) d;refine⟨a,c,w',g,?_,j⟩;unfold mI;rw[fQ,bF];exact i
def fU.reads{v:ah}{xs:List Int}(h:fU B w v xs):aT dX 1 w v xs:=aT.sJ h (λ_=>rfl) (by decide)
def mI.reads{v:ah}{xs:List ByteArray}(h:mI B w v xs):aT oR 1 w v xs:=aT.sJ h (λ_=>rfl) (by decide)
structure aV where
 wv:ah
 cv:ah
 words:List ByteArray
 cuts:List fI
 workers:Int
 copies:Int
 slots:Int
 batch:Int
 aS:Int
 dY:Int
 first:Int
 cap:Int
 b_:Int
 net:Int
def aV.cells(c:aV):List ah:=[c.wv,c.cv,an ar c.workers,an ar c.copies,an ar c.slots,an ar c.batch,an ar c.aS,an ar c.dY,an ar c.first,an ar c.cap,an ar c.b_,an ar c.net]
def aV.val(c:aV):ah:=aG #[c.wv,c.cv,c.workers,c.copies,c.slots,c.batch,c.aS,c.dY,c.first,c.cap,c.b_,c.net]
structure aV.ok(c:aV)(w:ae):Prop where
 rw':aT oR 1 w c.wv c.words
 rc:aT fI.cells 2 w c.cv c.cuts
 ws:∀s∈c.words,s.size<=1000
 cs:∀k∈c.cuts,k.text.size<=1000
def aV.ok.below{c:aV}{w w':ae}(h:c.ok w)(a:ai w w w'):c.ok w':=⟨h.rw'.below a,h.rc.below a,h.ws,h.cs⟩
def cP(x a b:Int):Bool:=decide (a<=x)&&decide (x<=b)
def jV(x a b:Int)(w:ae):aj prog 62 #[x,a,b] w λe w'=>e=ax (aw (cP x a b))/\w=w':=by
 unfold cP;by_cases c:a<=x
 all_goals
  go_in;go_wp2;go_ret;exact⟨cA (by simp[c]<;>omega),rfl⟩
def MA(c:aV):Bool:=cP c.workers 1 5&&cP c.copies 1 (min 3 c.workers)
def MB(c:aV):Bool:=cP c.slots 1 4&&(cP c.batch 1 5&&cP c.net 8 64)
def MC(c:aV):Bool:=cP c.aS 1 1000&&(cP c.dY 1 1000&&(cP c.first 1 10&&(cP c.cap c.first 50&&cP c.b_ 0 10)))
def fX(c:aV):Bool:=decide (fx c.words=0)&&(decide (oj c.cuts=0)&&(MA c&&(MB c&&MC c)))
def aV.box{c:aV}{w u:ae}(h:u=w.alloc (aB c.cells.toArray 25 (0,0))):(∀i v,c.cells[i]? =some v->u.cell? ⟨w,i,none⟩=some v)/\w.heap.size<u.heap.size/\aQ ([]:List Nat) w u:=by
 have⟨a,b,d⟩:=dt h;refine⟨λi v e=> ?_,d,b⟩;simp only[World.cell?,a];rw[List.getElem?_toArray,e];rfl
def D1(c:aV)(w:ae)(j:c.ok w):aj prog 46 #[c.val] w λe w'=>e=ax (aw (fX c))/\ai w w w':=by
 have⟨u,hu⟩:=aD (w.alloc (aB c.cells.toArray 25 (0,0)));have⟨Z,hl,hg⟩:=aV.box hu;have⟨t,x⟩:=aK (My c.wv c.words u (j.below hg.aJ).rw' j.ws) (show∀y,ai u u y->aj prog 61 #[c.cv] y λe w'=>e=ax (oj c.cuts:Int)/\ai y y w' fromλy n=>Z1 c.cv c.cuts y ((j.below hg.aJ).below n).rc j.cs);have A:∀y,aj prog 62 #[c.workers,an ar 1,an ar 5] y λe w'=>e=ax (aw (cP c.workers 1 5))/\y=w':=λy=>jV _ _ _ y
 have B:∀y,aj prog 62 #[c.copies,an ar 1,an ar (min 3 c.workers)] y λe w'=>e=ax (aw (cP c.copies 1 (min 3 c.workers)))/\y=w':=λy=>jV _ _ _ y
 have C:∀y,aj prog 62 #[c.slots,an ar 1,an ar 4] y λe w'=>e=ax (aw (cP c.slots 1 4))/\y=w':=λy=>jV _ _ _ y
 have E:∀y,aj prog 62 #[c.batch,an ar 1,an ar 5] y λe w'=>e=ax (aw (cP c.batch 1 5))/\y=w':=λy=>jV _ _ _ y
 have F:∀y,aj prog 62 #[c.net,an ar 8,an ar 64] y λe w'=>e=ax (aw (cP c.net 8 64))/\y=w':=λy=>jV _ _ _ y
 have H:∀y,aj prog 62 #[c.aS,an ar 1,an ar 1000] y λe w'=>e=ax (aw (cP c.aS 1 1000))/\y=w':=λy=>jV _ _ _ y
 have I:∀y,aj prog 62 #[c.dY,an ar 1,an ar 1000] y λe w'=>e=ax (aw (cP c.dY 1 1000))/\y=w':=λy=>jV _ _ _ y
 have J:∀y,aj prog 62 #[c.first,an ar 1,an ar 10] y λe w'=>e=ax (aw (cP c.first 1 10))/\y=w':=λy=>jV _ _ _ y
 have K:∀y,aj prog 62 #[c.cap,c.first,an ar 50] y λe w'=>e=ax (aw (cP c.cap c.first 50))/\y=w':=λy=>jV _ _ _ y
 have L:∀y,aj prog 62 #[c.b_,an ar 0,an ar 10] y λe w'=>e=ax (aw (cP c.b_ 0 10))/\y=w':=λy=>jV _ _ _ y
 unfold fX MA MB MC;generalize cP c.workers 1 5=n1 at*;generalize cP c.copies 1 (min 3 c.workers)=n2 at*;generalize cP c.slots 1 4=s1 at*;generalize cP c.batch 1 5=s2 at*;generalize cP c.net 8 64=s3 at*;generalize cP c.aS 1 1000=t1 at*;generalize cP c.dY 1 1000=t2 at*;generalize cP c.first 1 10=t3 at*;generalize cP c.cap c.first 50=t4 at*;generalize cP c.b_ 0 10=t5 at*;generalize fx c.words=gw at*;generalize oj c.cuts=gk at*;have⟨M,N,O,P,Q,T⟩:=eC A B C E F H;have⟨U,V,W,X,G⟩:=iI I J K L hg.aJ;clear A B C E F H I J K L j hg;obtain⟨wv,cv,words,cuts,b,d,k,l,aS,m,first,Y,f,net⟩:=c;have c0:=Z 0 _ rfl;have c1:=Z 1 _ rfl;have⟨MD,HU⟩:=aK Z (show u=w.alloc (aB #[wv,cv,b,d,k,l,aS,m,first,Y,f,net] 25 (0,0))from hu);clear hu Z
 show aj prog 46 #[aG #[wv,cv,b,d,k,l,aS,m,first,Y,f,net]] w _
 simp only at t x M N O P Q T U V W X c0 c1;go_in;go_upto_region 1 with fail
 rw[<-HU.o];go_wp2_with fail
 refine aN t.o ?_;intro y n;by_cases g:gw=0
 .have hb1:(gw !=0)=false:=by simp[g]
  have d1:=(n.cell (p:=⟨w,1,none⟩) hl).trans c1;have hl1:=bP hl n.size;have⟨qS,GY,q⟩:=aX (x.o y n) n g;clear n c0 c1 g;go_wp2_with fail
  refine aN qS.o ?_;intro z hz;have r:=GY.o.trans (hz.mono GY.o.size);have a:=λi v hv=>(r.cell (p:=⟨w,i,none⟩) hl).trans (MD.o i v hv)
  have c2:=a 2 _ rfl;have c3:=a 3 _ rfl;have c4:=a 4 _ rfl;have c5:=a 5 _ rfl;have c6:=a 6 _ rfl;have c7:=a 7 _ rfl;have c8:=a 8 _ rfl;have c9:=a 9 _ rfl;have c10:=a 10 _ rfl;have c11:=a 11 _ rfl;have GZ:=au (G.o.trans (r.mono G.o.size));clear hz r a d1 hl1 hl;by_cases h:gk=0
  .have hb2:(gk !=0)=false:=by simp[h]
   have s:=au h;clear h;go_upto_region 3 with fail
   go_cut [3] (λv wr=>v=aw (n1&&n2)/\z=wr)
   case first=>
    cases n1<;>cases n2
    all_goals
     go_wp2_with ((go_at_call 62;first|(with_reducible refine aH (M.o _) ?_)|(with_reducible refine aH (N.o _) ?_)));go_meet;exact⟨rfl,rfl⟩
   case rest=>
    obtain⟨rfl,rfl⟩:=hcut;go_upto_region 4 with fail
    go_cut [3,4] (λv v' wr=>v=aw (n1&&n2)/\v'=aw (s1&&(s2&&s3))/\z=wr)
    case first=>
     cases s1
     rotate_left
     cases s2
     rotate_left
     cases s3
     all_goals
      go_wp2_with ((go_at_call 62;first|(with_reducible refine aH (O.o _) ?_)|(with_reducible refine aH (P.o _) ?_)|(with_reducible refine aH (Q.o _) ?_)));go_meet;exact⟨rfl,rfl,rfl⟩
    case rest=>
     obtain⟨rfl,rfl,rfl⟩:=hcut;go_upto_region 5 with fail
     go_cut [3,4,5] (λv v' v'' wr=>v=aw (n1&&n2)/\v'=aw (s1&&(s2&&s3))/\v''=aw (t1&&(t2&&(t3&&(t4&&t5))))/\z=wr)
     case first=>
      cases t1
      rotate_left
      cases t2
      rotate_left
      cases t3
      rotate_left
      cases t4
      rotate_left
      cases t5
      all_goals
       go_wp2_with ((go_at_call 62;first|(with_reducible refine aH (T.o _) ?_)|(with_reducible refine aH (U.o _) ?_)|(with_reducible refine aH (V.o _) ?_)|(with_reducible refine aH (W.o _) ?_)|(with_reducible refine aH (X.o _) ?_)));go_meet;exact⟨rfl,rfl,rfl,rfl⟩
     case rest=>
      obtain⟨rfl,rfl,rfl,rfl⟩:=hcut;have e1:=decide_eq_true q.o;have e2:=decide_eq_true s.o;have⟨E1,E2⟩:=aK e1 e2;clear e1 e2;generalize h1:(n1&&n2)=a1;generalize h2:(s1&&(s2&&s3))=a2;generalize h3:(t1&&(t2&&(t3&&(t4&&t5))))=a3;have⟨A1,A2,A3⟩:=aX h1 h2 h3;clear h1 h2 h3;cases a1
      rotate_left
      cases a2
      all_goals
       go_wp2;go_ret;exact⟨cA (by rw[E1.o,E2.o,A1.o,A2.o,A3.o];rfl),GZ.o⟩
  .have hb2:(gk !=0)=true:=by simp[h]
   have s:=au (decide_eq_false h);clear h;go_wp2;go_ret;exact⟨cA (by rw[s.o];simp),GZ.o⟩
 .have hb1:(gw !=0)=true:=by simp[g]
  have⟨q,HY⟩:=aK (decide_eq_false g) (G.o.trans (n.mono G.o.size));clear g n;go_wp2;go_ret;exact⟨cA (by rw[q.o];rfl),HY.o⟩
def qT(xs:List Int)(x:Int):Int:=match xs.findIdx? (·==x)with
 |some i=>i
 |none=> -1
def uV{xs:List Int}{x:Int}{k:Nat}(b:k<xs.length)(h:xs.getD k 0=x)(c:∀j,j<k->xs.getD j 0≠x):qT xs x=k:=by
 have:xs.findIdx? (·==x)=some k:=by
  refine List.findIdx?_eq_some_iff_getElem.2 ⟨b,?_,λj d=> ?_⟩
  .simpa[aU,b]using h
  .have:=c j d
   have a:j<xs.length:=by omega
   simpa[aU,a]using this
 unfold qT;rw[this]
def uW{xs:List Int}{x:Int}(b:∀j,j<xs.length->xs.getD j 0≠x):qT xs x= -1:=by
 have:xs.findIdx? (·==x)=none:=by
  rw[List.findIdx?_eq_none_iff];intro y c;obtain⟨i,a,rfl⟩:=lG c;have:=b i a;simpa[aU,a]using this
 unfold qT;rw[this]
def Tu(xs:List Int)(x:Int):decide (0<=qT xs x)=xs.contains x:=by
 unfold qT;cases h:xs.findIdx? (·==x)with
 |none=>
  rw[List.findIdx?_eq_none_iff]at h;have:xs.contains x=false:=by
   cases e:xs.contains x
   .rfl
   .have:=h x (by simpa using e)
    simp at this
  rw[this];rfl
 |some i=>
  have⟨a,b,_⟩:=List.findIdx?_eq_some_iff_getElem.1 h;have:xs.contains x=true:=by
   simp only[List.contains_iff_mem];have e:xs[i]=x:=by simpa using b
   rw[<-e];exact eA a
  rw[this];simp
def Qf(v:ah)(xs:List Int)(x:Int)(w:ae)(h:aT dX 1 w v xs):aj prog 133 #[v,(x:Int)] w λe w'=>e=ax (qT xs x:Int)/\w=w':=by
 have B:=au h;obtain⟨a,C,rfl,E,I,_⟩:=h;unfold maxLen at E;have⟨z,m⟩:=aD (qT xs x);rw[<-m];have r:=au m;clear m;go_in;go_wp2
 go_loop [8] (λi=>∃k:Nat,i=an ar k/\k<=xs.length/\∀j,j<k->xs.getD j 0≠x) (λi=>xs.length-(intOf i).toNat)
 case atStart=>exact⟨0,rfl,bz _,λj s=>by omega⟩
 case round=>
  obtain⟨k,rfl,J,t⟩:=hrel;have n:=au t;clear t;by_cases f:k<xs.length
  .obtain⟨b,F,rfl,G,g⟩:=B.o.slot k f
   have l:=g 0 _ rfl;simp only[bM,Nat.mul_one]at l;have K:(0:Int)<=(k:Int):=by omega
   have L:(k:Int)<(xs.length:Int):=by omega
   have⟨y,p⟩:=aD (xs.getD k 0);have u:xs.getD k ()=xs.getD k 0:=rfl;rw[u,<-p]at l;have A:=au p;clear g p u;by_cases c:x=y
   .have H:(x==y)=true:=by simp[c]
    have d:z=k:=by rw[r.o];exact uV f (A.o.symm.trans c.symm) n.o
    subst d;clear c;go_wp2;go_ret;exact⟨rfl,rfl⟩
   .have H:(x==y)=false:=by simp[c]
    have q:=au c;clear c;go_wp2
    go_round
    case rel=>exact⟨k+1,rfl,by omega,λj s=>by
     by_cases e:j=k
     .rw[e,<-A.o];exactλe=>q.o e.symm
     .exact n.o j (by omega)⟩
    case measure=>simp[intOf];omega
  .have d:z= -1:=by rw[r.o];exact uW λj s=>n.o j (by omega)
   subst d;go_wp2;go_ret;exact⟨rfl,rfl⟩
def pJ(v:ah)(xs:List Int)(x:Int)(w:ae)(h:aT dX 1 w v xs):aj prog 105 #[v,(x:Int)] w λe w'=>e=ax (aw (xs.contains x))/\w=w':=by
 rw[<-Tu];have H:=au (Qf v xs x w h);obtain⟨a,b,rfl,c,d,_⟩:=h;generalize qT xs x=z at*;go_in;go_wp2_with fail
 refine aH H.o ?_;go_wp2;go_ret;exact⟨rfl,rfl⟩
def kA{x a b:Int}:cP x a b=true↔a<=x/\x<=b:=by simp[cP]
structure aV.bd(c:aV):Prop where
 w1:1<=c.workers
 w2:c.workers<=5
 c1:1<=c.copies
 c2:c.copies<=3
 cw:c.copies<=c.workers
 s1:1<=c.slots
 s2:c.slots<=4
 b1:1<=c.batch
 b2:c.batch<=5
 n1:8<=c.net
 n2:c.net<=64
 l1:1<=c.aS
 l2:c.aS<=1000
 h1:1<=c.dY
 h2:c.dY<=1000
 f1:1<=c.first
 f2:c.first<=10
 p1:c.first<=c.cap
 p2:c.cap<=50
 j1:0<=c.b_
 j2:c.b_<=10
 cu:c.cuts.length<=5
 wo:c.words.length<=60
 gw:fx c.words=0
 gk:oj c.cuts=0
def aV.bounds{c:aV}(h:fX c=true):c.bd:=by
 unfold fX MA MB MC at h;simp only[cV,ei,kA]at h;obtain⟨a,b,⟨⟨f,g⟩,i,A⟩,⟨⟨j,k⟩,⟨l,m⟩,n,o⟩,⟨p,q⟩,⟨r,s⟩,⟨t,u⟩,⟨v,w⟩,x,d⟩:=h;have y:c.words.length<=60:=by
  unfold fx at a;by_cases e:60<c.words.length
  .rw[aI e]at a;omega
  .omega
 have z:c.cuts.length<=5:=by
  unfold oj at b;by_cases e:5<c.cuts.length
  .rw[aI e]at b;omega
  .omega
 exact⟨f,g,i,by omega,by omega,j,k,l,m,n,o,p,q,r,s,t,u,v,w,x,d,z,y,a,b⟩
def aZ(c:aV):Int:=if fX c=true then(c.cuts.length:Int)+1 else 0
def zB(c:aV)(w:ae)(l:c.ok w):aj prog 80 #[c.val] w λe w'=>e=ax (aZ c:Int)/\ai w w w':=by
 have⟨u,v⟩:=aD (w.alloc (aB c.cells.toArray 25 (0,0)));have⟨j,J,x⟩:=aV.box v;have M:=au (D1 c u (l.below x.aJ));have⟨z,A,q,r,_⟩:=l.rc;have t:=λh=>(aV.bounds (c:=c) h).cu
 unfold maxLen at r;unfold aZ;obtain⟨B,cv,C,k,a,b,f,g,aS,i,first,n,d,net⟩:=c;simp only at q r t;subst q;have N:=au (show u=w.alloc (aB #[B,av z k.length A,a,b,f,g,aS,i,first,n,d,net] 25 (0,0))from v);generalize fX _=m at*;have s:aj prog 46 #[aG #[B,av z k.length A,a,b,f,g,aS,i,first,n,d,net]] u λe w'=>e=ax (aw m)/\ai u u w':=M.o
 have E:=au s;have O:=j 0 _ rfl;have K:=j 1 _ rfl;have P:=j 2 _ rfl;have Q:=j 3 _ rfl;have T:=j 4 _ rfl;have U:=j 5 _ rfl;have V:=j 6 _ rfl;have W:=j 7 _ rfl;have X:=j 8 _ rfl;have Y:=j 9 _ rfl;have F:=j 10 _ rfl;have H:=j 11 _ rfl;have G:=au x.aJ;clear v x s l j
 show aj prog 80 #[aG #[B,av z k.length A,a,b,f,g,aS,i,first,n,d,net]] w _
 go_in;go_upto_region 1 with fail
 rw[<-N.o];go_wp2_with fail
 refine aN E.o ?_;intro y I;have d1:=(I.cell (p:=⟨w,1,none⟩) J).trans K;have L:=au (G.o.trans (I.mono G.o.size));clear I O K P Q T U V W X Y F H J;cases m
 .clear t
  go_wp2;go_ret;exact⟨rfl,L.o⟩
 .have Z:=t rfl
  clear t;go_wp2;go_ret;exact⟨rfl,L.o⟩
structure qF where
 life:Int
 aW:Int
 till:Int
deriving Inhabited
def qF.ok(x:qF):Prop:=0<=x.life/\x.life<=2147483647/\0<=x.aW/\x.aW<=x.life/\0<=x.till/\x.till<=1099511628776
def WT(L:List qF):List ah:=L.flatMap λx=> [an ar x.life,an ar x.aW,an ar x.till]
structure dH(w:ae)(p:Nat)(n term:Int)(L:List qF):Prop where
 c:w.heap[p]? =some (aB ((an ar n::an ar term::WT L).toArray) 204 (0,0))
 l:L.length=6
 n1:1<=n
 n5:n<=5
 t1:1<=term
 t2:term<=1000
 ok:∀x∈L,x.ok
variable{n:Int}{L:List qF}
def dH.bH{w':ae}{a:Int}{S:List Nat}(h:dH w p n a L)(g:aQ S w w')(b:p∉S):dH w' p n a L:=⟨g.at h.c b,h.l,h.n1,h.n5,h.t1,h.t2,h.ok⟩
def six{g:Type}{L:List g}(h:L.length=6):∃a b c d e f,L=[a,b,c,d,e,f]:=by
 match L,h with
 | [a,b,c,d,e,f],_=>exact⟨a,b,c,d,e,f,rfl⟩
def Qg(n a:Int)(w:ae)(b:1<=n)(c:n<=5)(d:1<=a)(f:a<=1000):aj prog 82 #[n,a] w λe w'=>e=ax (aM #[w.heap.size,an ar 0])/\dH w' w n a (List.replicate 6 ⟨0,0,0⟩)/\aQ ([]:List Nat) w w':=by
 go_in;go_wp2;go_ret2;exact⟨rfl,⟨a_ _ _,rfl,b,c,d,f,λx g=>by rw[List.eq_of_mem_replicate g];exact⟨by decide,by decide,by decide,by decide,by decide,by decide⟩⟩,(aQ.refl _ _).alloc _⟩
def fy(n x:Int):Bool:=decide (1<=x)&&decide (x<=n)
def nD(p:Nat)(n x:Int):Option Addr:=if fy n x then some ⟨p,2+x.toNat*3,none⟩else none
def Ag{a:Int}(h:dH w p n a L)(x:Int):aj prog 78 #[p,(x:Int)] w λe w'=>e=ax (aL (nD p n x))/\w=w':=by
 obtain⟨g,i,j,m,q,r,rfl⟩:=six h.l;have b:=h.c;have d:=h.n1;have f:=h.n5;have s:=aF b 0 rfl;clear h;by_cases t:x<1
 .clear b
  have E:=au (show nD p n x=none by unfold nD fy;rw[decide_eq_false (show¬1<=x by omega)];rfl);go_in;go_wp2;go_ret;exact⟨by rw[E.o];rfl,rfl⟩
 .by_cases u:n<x
  .clear b
   have E:=au (show nD p n x=none by unfold nD fy;rw[decide_eq_false (show¬x<=n by omega),Bool.and_false];rfl);go_in;go_wp2;go_ret;exact⟨by rw[E.o];rfl,rfl⟩
  .obtain⟨k,rfl⟩:∃k:Nat,x=k:=⟨x.toNat,by omega⟩
   have E:=au (show nD p n k=some ⟨p,2+k*3,none⟩by unfold nD fy;rw[aI (by simp;omega)];rfl);have v:(k:Int)<6:=by omega
   go_in;go_wp2;go_ret;exact⟨by rw[E.o];rfl,rfl⟩
def D2(now:Int):Bool:=decide (0<=now)&&decide (now<=1099511627776)
def Za(now:Int)(w:ae):aj prog 264 #[(now:Int)] w λe w'=>e=ax (aw (D2 now))/\w=w':=by
 unfold D2;by_cases a:0<=now
 all_goals
  go_in;go_wp2;go_ret;exact⟨cA (by simp[a]<;>omega),rfl⟩
def Fy(L:List qF):(WT L).length=L.length*3:=by
 induction L with
 |nil=>rfl
 |cons a l b=>simp only[WT,eI,bF]at*;simp[b];omega
def zC(L:List qF)(k j:Nat)(b:k<L.length)(c:j<3):(WT L)[k*3+j]? =([an ar (L.getD k ()).life,an ar (L.getD k ()).aW,an ar (L.getD k ()).till]:List ah)[j]? :=by
 induction L generalizing k with
 |nil=>simp at b
 |cons a l d=>
  have e:WT (a::l)=[an ar a.life,an ar a.aW,an ar a.till]++WT l:=by simp[WT]
  cases k with
  |zero=>
   rw[e,Nat.zero_mul,eJ,gZ (by simpa using c)];rfl
  |succ k=>
   rw[e,g_ (by simp;omega),show(k+1)*3+j-([an ar a.life,an ar a.aW,an ar a.till]:List ah).length=k*3+j by simp;omega,d k (by simpa using b)];rfl
def WU(L:List qF)(k j:Nat)(x:qF)(u:ah)(f:k<L.length)(g:j<3)(h:∀q,q<3->([an ar x.life,an ar x.aW,an ar x.till]:List ah)[q]? =if q=j then some u else([an ar (L.getD k ()).life,an ar (L.getD k ()).aW,an ar (L.getD k ()).till]:List ah)[q]?):WT (L.set k x)=(WT L).set (k*3+j) u:=by
 apply List.ext_getElem?;intro q;by_cases l:q<L.length*3
 .obtain⟨i,r,a,rfl⟩:∃i r,r<3/\q=i*3+r:=⟨q/3,q%3,Nat.mod_lt _ (by decide),by omega⟩
  have b:i<L.length:=by omega
  rw[zC _ i r (by simpa using b) a,iW];by_cases e:k=i
  .subst e
   have c:(L.set k x).getD k ()=x:=by simp[aU,b]
   rw[c,h r a];by_cases d:j=r
   .subst d
    rw[aI rfl,aI rfl,aI (by rw[Fy];omega)]
   .rw[aC (by omega),aC (by omega),zC _ k r b a]
  .have c:(L.set k x).getD i ()=L.getD i ():=by simp[aU,iW,e]
   rw[c,aC (by omega),zC _ i r b a]
 .rw[oz (by rw[Fy,ds];omega),oz (by rw[ds,Fy];omega)]
def dH.cells{a:Int}(h:dH w p n a L)(k:Nat)(g:k<6):
 p<w/\w.cell? p=n/\w.cell? ⟨p,1,none⟩=a/\w.cell? ⟨p,2+k*3,none⟩=some (an ar (L.getD k ()).life)/\w.cell? ⟨p,2+k*3+1,none⟩=some (an ar (L.getD k ()).aW)/\w.cell? ⟨p,2+k*3+2,none⟩=some (an ar (L.getD k ()).till)/\∀o,w.frozen? ⟨p,o,none⟩=false:=by
 have b:=h.c;have i:=h.l;have d:∀j u,j<3->([an ar (L.getD k ()).life,an ar (L.getD k ()).aW,an ar (L.getD k ()).till]:List ah)[j]? =some u->w.cell? ⟨p,2+k*3+j,none⟩=some u:=λj u e f=>by
  simp only[World.cell?,b];rw[List.getElem?_toArray,show 2+k*3+j=(k*3+j)+1+1 by omega,List.getElem?_cons_succ,List.getElem?_cons_succ,zC L k j (by omega) e,f];rfl
 exact⟨az b,aF b _ rfl,aF b _ rfl,d 0 _ (by decide) rfl,d 1 _ (by decide) rfl,d 2 _ (by decide) rfl,λo=>bB b _⟩
def dH.put{a:Int}(h:dH w p n a L)(k j:Nat)(i:k<6)(d:j<3)(x:qF)(u:ah)(e:x.ok)(f:∀q,q<3->([an ar x.life,an ar x.aW,an ar x.till]:List ah)[q]? =if q=j then some u else([an ar (L.getD k ()).life,an ar (L.getD k ()).aW,an ar (L.getD k ()).till]:List ah)[q]?):
 dH (w.setCell ⟨p,2+k*3+j,none⟩ u) p n a (L.set k x)/\aQ [p] w (w.setCell ⟨p,2+k*3+j,none⟩ u):=by
 have g:=h.l;refine⟨⟨?_,by simpa using g,h.n1,h.n5,h.t1,h.t2,λy b=> ?_⟩,(aQ.refl _ _).setCell _ (by simp) _⟩
 .rw[aE h.c u,WU L k j x u (by omega) d f,dF,show 2+k*3+j=(k*3+j)+1+1 by omega,ct,ct]
 .obtain b|rfl:=jC b
  .exact h.ok y b
  .exact e
def qF.lives(x:qF)(t:Int):qF:={x with till:=max x.till t}
def ME{a:Int}(h:dH w p n a L)(k:Nat)(d:k<6)(now:Int)(E:0<=now)(F:now<=1099511627776):aj prog 265 #[p,aL (some ⟨p,2+k*3,none⟩),(now:Int)] w λe w'=>e=ax (aM #[])/\(dH w' p n a (L.set k ((L.getD k ()).lives (now+a)))/\aQ [p] w w'):=by
 have⟨G,H,I,r,s,t,f⟩:=h.cells k d;have c:=h.ok _ (bh L k (by have:=h.l;omega));have J:=h.t1;have K:=h.t2;have g:=h.bH (aQ.refl ([]:List Nat) w).drew (by simp);have b:=g.put k 2 d (by decide) ((L.getD k ()).lives (now+a)) (max (L.getD k ()).till (now+a):Int) (by
  obtain⟨u,v,y,z,i,j⟩:=c;refine⟨u,v,y,z,?_,?_⟩<;>simp only[qF.lives]<;>omega) (λq A=>by
  match q,A with
  |0,_=>rfl
  |1,_=>rfl
  |2,_=>rfl)
 generalize L.set k ((L.getD k ()).lives (now+a))=L2 at*;generalize L.getD k ()=x at*;obtain⟨M,N,m⟩:=x;obtain⟨_,_,_,_,i,j⟩:=c;simp only at r s t b i j;have O:=f (2+k*3+2);have B:=au (show dH (w.drew.setCell ⟨p,2+k*3+2,none⟩ (max m (now+a):Int)) p n a L2/\aQ [p] w (w.drew.setCell ⟨p,2+k*3+2,none⟩ (max m (now+a):Int))from⟨b.1,(aQ.refl [p] w).drew.trans b.2⟩);clear h b g f;go_in;have C:=IntWalk.i64_in (now+a) (by omega)
 go_still_tail 14,(by kernel_rfl)
 clear C;go_wp2
 go_end0
 exact⟨rfl,B.o⟩
def oU{x:Int}(h:fy n x=false):nD p n x=none:=by unfold nD;rw[h];rfl
def nE{x:Int}(h:fy n x=true):nD p n x=some ⟨p,2+x.toNat*3,none⟩:=by unfold nD;rw[h];rfl
def l7{x:Int}(h:fy n x=true)(a:n<=5):∃k:Nat,x=k/\1<=k/\k<6:=by
 unfold fy at h;simp at h;exact⟨x.toNat,by omega,by omega,by omega⟩
def mJ(n:Int)(L:List qF)(x:Int):Int:=if fy n x then(L.getD x.toNat ()).aW else 0
def qo(n:Int)(L:List qF)(x now:Int):Bool:=fy n x&&(decide (0<(L.getD x.toNat ()).aW)&&decide (now<=(L.getD x.toNat ()).till))
def Tv{a:Int}(h:dH w p n a L)(x:Int):aj prog 53 #[p,(x:Int)] w λe w'=>e=ax (mJ n L x:Int)/\w=w':=by
 have b:=au (Ag h x);cases hv:fy n x
 .rw[oU hv]at b
  have E:=au (show mJ n L x=0 by unfold mJ;rw[hv];rfl);clear h hv;go_in;go_wp2_with (go_at_call 78;refine aH b.o ?_);go_ret;exact⟨by rw[E.o];rfl,rfl⟩
 .rw[nE hv]at b
  have E:=au (show mJ n L x=(L.getD x.toNat ()).aW by unfold mJ;rw[hv];rfl);obtain⟨k,rfl,_,c⟩:=l7 hv h.n5;have⟨f,g,i,j,l,m,d⟩:=h.cells k c;simp only[gE]at b E;generalize(L.getD k ()).aW=y at*;clear h hv d;go_in;go_wp2_with (go_at_call 78;refine aH b.o ?_);go_ret;exact⟨by rw[E.o];rfl,rfl⟩
def adh{a:Int}(h:dH w p n a L)(x now:Int):aj prog 259 #[p,x,now] w λe w'=>e=ax (aw (qo n L x now))/\w=w':=by
 have b:=au (Ag h x);cases hv:fy n x
 .rw[oU hv]at b
  have E:=au (show qo n L x now=false by unfold qo;rw[hv];rfl);clear h hv;go_in;go_wp2_with (go_at_call 78;refine aH b.o ?_);go_ret;exact⟨by rw[E.o];rfl,rfl⟩
 .rw[nE hv]at b
  obtain⟨k,rfl,_,f⟩:=l7 hv h.n5;have E:=au (show qo n L k now=(decide (0<(L.getD k ()).aW)&&decide (now<=(L.getD k ()).till))by unfold qo;rw[hv];rfl);have⟨q,r,s,g,i,j,l⟩:=h.cells k f;simp only[gE]at b;have⟨y,c⟩:=aD ((L.getD k ()).aW);have⟨z,d⟩:=aD ((L.getD k ()).till);rw[<-c]at E i;rw[<-d]at E j;clear h hv l c d g;by_cases m:0<y
  all_goals
   go_in;go_wp2_with (go_at_call 78;refine aH b.o ?_);go_ret;exact⟨by rw[E.o];exact cA (by first|(simp[m];done)|(simp;omega)),rfl⟩
def l8(n:Int)(L:List qF)(x e:Int):Bool:=fy n x&&(!decide ((L.getD x.toNat ()).aW=0)&&decide ((L.getD x.toNat ()).aW=e))
def kB(n term:Int)(L:List qF)(x e now:Int):List qF:=if l8 n L x e then L.set x.toNat ((L.getD x.toNat ()).lives (now+term))else L
def adi{a:Int}(h:dH w p n a L)(x e now:Int)(l:0<=now)(b:now<=1099511627776):aj prog 254 #[p,x,e,now] w λv w'=>v=ax (aw (l8 n L x e))/\(dH w' p n a (kB n a L x e now)/\aQ [p] w w'):=by
 have⟨d,m⟩:=aK (Ag h x) (Za now w);have q:D2 now=true:=by unfold D2;simp[l,b]
 rw[q]at m;have r:l8 n L x e=false->dH w p n a (kB n a L x e now)/\aQ [p] w w:=λi=>by
  unfold kB;rw[i];exact⟨h,aQ.refl _ _⟩
 have f:=au r;clear r q;cases hv:fy n x
 .rw[oU hv]at d
  have E:=au (show l8 n L x e=false by unfold l8;rw[hv];rfl);clear h hv;go_in;go_wp2_with (go_at_call 78;refine aH d.o ?_);go_ret;exact⟨by rw[E.o];rfl,f.o E.o⟩
 .rw[nE hv]at d
  obtain⟨k,rfl,_,s⟩:=l7 hv h.n5;have⟨E,A⟩:=aK (show l8 n L k e=(!decide ((L.getD k ()).aW=0)&&decide ((L.getD k ()).aW=e))by unfold l8;rw[hv];rfl) (show l8 n L k e=true->kB n a L k e now=L.set k ((L.getD k ()).lives (now+a))fromλi=>by unfold kB;rw[i];rfl);have⟨K,M,N,B,C,F,G⟩:=h.cells k s;simp only[gE]at d;have j:=au (ME h k s now l b);generalize L.set k ((L.getD k ()).lives (now+a))=L2 at*;have⟨y,t⟩:=aD ((L.getD k ()).aW);rw[<-t]at E C;clear h hv G B F t;by_cases b:y=0
  .have H:(y==0)=true:=by simp[b]
   have c:=au (show l8 n L k e=false by rw[E.o];simp[b]);clear b;go_in;go_wp2_with (go_at_call 78;refine aH d.o ?_);go_ret;exact⟨by rw[c.o];rfl,f.o c.o⟩
  .have H:(y==0)=false:=by simp[b]
   by_cases g:y=e
   .have I:(y !=e)=false:=by simp[g]
    have c:=au (show l8 n L k e=true by rw[E.o];simp[g];rw[<-g];exact b);clear b g;go_in;go_wp2_with (first|(go_at_call 78;refine aH d.o ?_)|(go_at_call 264;refine aH m.o ?_)|(go_at_call 265;refine aN j.o ?_;intro z u;have J:=au u;clear u));go_ret;exact⟨by rw[c.o];rfl,by rw[A.o c.o];exact J.o⟩
   .have I:(y !=e)=true:=by simp[g]
    have c:=au (show l8 n L k e=false by rw[E.o];simp[g]);clear b g;go_in;go_wp2_with (go_at_call 78;refine aH d.o ?_);go_ret;exact⟨by rw[c.o];rfl,f.o c.o⟩
def mK(n term:Int)(L:List qF)(x life now:Int):Int×Int×List qF:=
 if fy n x&&(decide (1<=life)&&decide (life<=2147483647))then
  if life<(L.getD x.toNat ()).life then(0,4,L)
  else if(L.getD x.toNat ()).life<life then((L.getD x.toNat ()).aW+1,0,L.set x.toNat (qF.lives ⟨life,(L.getD x.toNat ()).aW+1,(L.getD x.toNat ()).till⟩ (now+term)))
  else((L.getD x.toNat ()).aW,0,L.set x.toNat ((L.getD x.toNat ()).lives (now+term)))
 else(0,2,L)
theorem lV{a:Type}[Inhabited a](L:List a)(k:Nat)(x:a)(b:k<L.length):(L.set k x).getD k ()=x:=by simp[aU,b]
def Z4{w:ae}{p:Nat}{n a:Int}{L:List qF}(h:dH w p n a L)(x life now:Int)(M:0<=now)(N:now<=1099511627776):
 aj prog 251 #[p,x,life,now] w λe w'=>e=ax (aM #[an ar (mK n a L x life now).1,an ar (mK n a L x life now).2.1])/\(dH w' p n a (mK n a L x life now).2.2/\aQ [p] w w'):=by
 have f:=au (Ag h x);have ht:D2 now=true:=by unfold D2;simp[M,N]
 have⟨O,P⟩:=aK (show∀y,aj prog 264 #[now] y λe w'=>e=ax (aw true)/\y=w' fromλy=>ht▸Za now y) (show dH w p n a L/\aQ [p] w w from⟨h,aQ.refl _ _⟩);clear ht;cases hv:fy n x
 .rw[oU hv]at f
  have E:mK n a L x life now=(0,2,L):=by unfold mK;rw[hv];rfl
  rw[E];clear h hv E;go_in;go_wp2_with (go_at_call 78;refine aH f.o ?_);go_ret2;exact⟨rfl,P.o⟩
 .rw[nE hv]at f
  obtain⟨k,rfl,_,b⟩:=l7 hv h.n5;simp only[gE]at f;by_cases hb:1<=life/\life<=2147483647
  .obtain⟨b1,b2⟩:=hb
   have E:mK n a L k life now=if life<(L.getD k ()).life then(0,4,L)
    else if(L.getD k ()).life<life then((L.getD k ()).aW+1,0,L.set k (qF.lives ⟨life,(L.getD k ()).aW+1,(L.getD k ()).till⟩ (now+a)))
    else((L.getD k ()).aW,0,L.set k ((L.getD k ()).lives (now+a))):=by
    unfold mK;rw[aI (by rw[hv];simp[b1,b2])];rfl
   rw[E];have hl6:=h.l;have i:=h.ok _ (bh L k (by omega));have⟨hl,c0,Q,j,T,U,G⟩:=h.cells k b;have V:=au (ME h k b now M N);have⟨y,c⟩:=aD (L.getD k ());by_cases d:life<(L.getD k ()).life
   .rw[aI d]
    rw[<-c]at j d;clear h hv E i Q T U G c;go_in;go_wp2_with (first|(go_at_call 78;refine aH f.o ?_)|(go_at_call 264;refine aH (O.o _) ?_));go_ret2;exact⟨rfl,P.o⟩
   .rw[aC d]
    by_cases m:(L.getD k ()).life<life
    .rw[aI m]
     obtain⟨a1,a2,a3,a4,a5,a6⟩:=i;rw[<-c]at d m a1 a2 a3 a4 a5 a6⊢;have A:=h.put k 0 b (by decide) ⟨life,y.aW,y.till⟩ life ⟨by simp only;omega,by simp only;omega,by simp only;omega,by simp only;omega,by simp only;omega,by simp only;omega⟩ (λq W=>by
      rw[<-c]
      match q,W with
      |0,_=>rfl
      |1,_=>rfl
      |2,_=>rfl)
     have X:=lV L k (⟨life,y.aW,y.till⟩:qF) (by omega);have v:=A.1.put k 1 b (by decide) ⟨life,y.aW+1,y.till⟩ (y.aW+1:Int) ⟨by simp only;omega,by simp only;omega,by simp only;omega,by simp only;omega,by simp only;omega,by simp only;omega⟩ (λq W=>by
      rw[X]
      match q,W with
      |0,_=>rfl
      |1,_=>rfl
      |2,_=>rfl)
     have⟨u1,r⟩:=aD (w.setCell ⟨p,2+k*3,none⟩ life);rw[bM,<-r]at A v;have⟨_,_,_,d2,H,_,df⟩:=A.1.cells k b;rw[X]at H;simp only at H;have⟨u2,s⟩:=aD (u1.setCell ⟨p,2+k*3+1,none⟩ (y.aW+1:Int));rw[<-s,SO]at v;have Y:=lV L k (⟨life,y.aW+1,y.till⟩:qF) (by omega);have t:=ME v.1 k b now M N;rw[Y,SO]at t;have⟨_,_,_,_,I,_,_⟩:=v.1.cells k b;rw[Y]at I;simp only at I;have⟨G2,g,B,C⟩:=c_ (A.2.trans v.2) t r s;have f0:=G (2+k*3);have f1:=df (2+k*3+1);rw[<-c]at j;obtain⟨yl,J,Z⟩:=y;simp only at d m a1 a2 a3 a4 a5 a6 j H I g B C;have K:=au (show((L.set k (qF.lives ⟨life,J+1,Z⟩ (now+a))).getD k ()).aW=J+1 by rw[lV L k _ (by omega)];rfl);generalize L.set k (qF.lives ⟨life,J+1,Z⟩ (now+a))=L2 at*;clear h hv E Q T U G df c A v X Y t r s d2;go_in;go_upto_region 10 with(first|(go_at_call 78;refine aH f.o ?_)|(go_at_call 264;refine aH (O.o _) ?_))
     rw[<-B.o];go_upto_region 11 with fail
     rw[<-C.o];go_wp2_with fail
     refine aN g.o ?_;rintro z ⟨u,F⟩;have⟨hlz,_,_,_,k3,_,_⟩:=u.cells k b;rw[K.o]at k3;have HZ:=au (show dH z p n a L2/\aQ [p] w z from⟨u,G2.o.trans F⟩);clear u F f0 f1 H I j;go_wp2;go_ret2;exact⟨rfl,HZ.o⟩
    .rw[aC m]
     have K:=au (show((L.set k ((L.getD k ()).lives (now+a))).getD k ()).aW=y.aW by rw[lV L k _ (by omega),c];rfl);generalize L.set k ((L.getD k ()).lives (now+a))=L2 at*;rw[<-c]at j d m⊢;clear h hv E i Q T U G c;obtain⟨yl,J,Z⟩:=y;simp only at d m j K⊢;go_in;go_wp2_with (first|(go_at_call 78;refine aH f.o ?_)|(go_at_call 264;refine aH (O.o _) ?_)|fail);refine aN V.o ?_;rintro z ⟨u,F⟩;have⟨hlz,_,_,_,k3,_,_⟩:=u.cells k b;rw[K.o]at k3;have HZ:=au (show dH z p n a L2/\aQ [p] w z from⟨u,F⟩);clear u F j;go_wp2;go_ret2;exact⟨rfl,HZ.o⟩
  .have E:mK n a L k life now=(0,2,L):=by
    unfold mK;rw[aC (by rw[hv];simp;omega)]
   rw[E];clear h hv E;obtain d|⟨d,m⟩:=(by omega:life<1∨(¬life<1/\2147483647<life))
   all_goals
    clear hb;go_in;go_wp2_with (go_at_call 78;refine aH f.o ?_);go_ret2;exact⟨rfl,P.o⟩
def Qh(w:ae):(zeroValue 193).run prog w=.ok (aG #[an ar 0,an ar 0,an ar 0,(),aw false]) w:=by kernel_rfl
def Ah(w:ae)(g a c:Nat)(f:Array ah)(h:w.heap[g]? =some (aB f 193 (0,0)))(p:a+5<=f.size):
 ∃b:List ah,b.length=5/\∀l,(Builtin.clear_ #[166] l #[av (some ⟨g,a,none⟩) 1 c]).run prog w=.ok (aM #[]) (w.setCells g a b):=by
 have⟨b,d⟩:=aD ((Builtin.zeroCells #[Value.int .i64 0,an ar 0,an ar 0,(),aw false] 1).toList);have m:b.length=5:=by rw[d];simp[Builtin.zeroCells]
 have n:∀v∈b,v.oneCell'=true:=by
  intro v k;have e:b=[Value.int .i64 0,an ar 0,an ar 0,(),aw false]:=by rw[d];kernel_rfl
  rw[e]at k;simp only[bQ,ez,or_false]at k;rcases k with rfl|rfl|rfl|rfl|rfl<;>rfl
 have i:=run_storeCells_cells (P:=prog) g a b 0 w (λj o=>by
  simp only[World.cell?,h];rw[Array.getElem?_eq_getElem (by omega)];rfl) (λj o=>bB h _) n
 rw[bM]at i;refine⟨b,m,λl=> ?_⟩;simp only[Builtin.clear_];simp[run_underlying underlying166,Qh,Result.andThen,Value.cells,<-d,i]
def Qi(a:List GM)(i:Nat):py (a.eraseIdx i)=py (a.take i)++py (a.drop (i+1)):=by
 unfold py;rw[<-fQ,List.eraseIdx_eq_take_drop_succ]
def Tw(a:List GM)(i j:Nat)(h:i+1<=a.length):(py (a.drop (i+1)))[j]? =(py a)[(i+1)*5+j]? :=by
 have e:py a=py (a.take (i+1))++py (a.drop (i+1)):=by
  unfold py;rw[<-fQ,mE]
 have b:(py (a.take (i+1))).length=(i+1)*5:=by rw[oe,dw,Nat.min_eq_left h]
 rw[e,g_ (by omega),b];congr 1;omega
def Tx(a:List GM)(i j:Nat)(h:i<=a.length)(b:j<i*5):(py (a.take i))[j]? =(py a)[j]? :=by
 have e:py a=py (a.take i)++py (a.drop i):=by
  unfold py;rw[<-fQ,mE]
 have c:(py (a.take i)).length=i*5:=by rw[oe,dw,Nat.min_eq_left h]
 rw[e,gZ (by omega)]
def ahM{w:ae}{gb:Nat}{v:ah}{Ms:List GM}{i k:Nat}(hk:Ms.length=k+1)(hs:Seg w 193 5 (some gb) v (py Ms) (k+1))(hi:i<k+1)(hn:k<=1000)(ho:∀m∈Ms,∃a n c,m.fv=av a n c):
 aj prog 127 #[v,(i:Int),an ar ((i:Int)+1)] w λe w'=>∃v',e=ax v'/\
  Seg w' 193 5 (some gb) v' (py (Ms.eraseIdx i)) k/\aQ [gb] w w':=by
 obtain⟨hcl,⟨h0,_⟩|⟨gb',off,cap,cur,hge,rfl,hh,hnc,hmx,hsz,MF⟩⟩:=hs
 .cases h0
 simp only[Option.some.injEq]at hge;subst hge;unfold maxLen at hmx;have q1:(0:Int)<=(i:Int):=by omega
 have q2:(i:Int)+1<=(k:Int)+1:=by omega
 have q3:(k:Int)+1<=(cap:Int):=by omega
 have q5:(i:Int)+1<=(cap:Int):=by omega
 have q6:(i:Int)<=(cap:Int):=by omega
 have hw1:IntKind.i64.wrap ((i:Int)+1)=(i:Int)+1:=IntWalk.i64_in _ (by omega);have ht1:((i:Int)+1).toNat=i+1:=by omega
 have q7:(0:Int)<=(i:Int)+1:=by omega
 have q9:(0:Int)<=(k:Int)+1:=by omega
 have ht2:((k:Int)+1).toNat=k+1:=by omega
 have hm5:off+(k+1)*5<=cur.size:=by
  have:(k+1)*5<=cap*5:=Nat.mul_le_mul_right _ hnc;omega
 obtain⟨AD,Ty⟩:∃AD,(if cap=i+1 then some (⟨gb,off,none⟩:Addr)else some ⟨gb,off+(i+1)*5,none⟩)=AD:=⟨_,rfl⟩
 obtain⟨ad,had,hadd⟩:∃ad,AD=some ad/\(i<k->ad=⟨gb,off+(i+1)*5,none⟩):=by
  rw[<-Ty];split
  .exact⟨_,rfl,λh=>by omega⟩
  .exact⟨_,rfl,λ_=>rfl⟩
 have⟨i0,hi0,hz0,hz1,hz2⟩:=info_parts Jh;have hnl:(py (Ms.drop (i+1))).length=(k-i)*5:=by rw[oe,List.length_drop,hk];congr 1;omega
 have hdr:w.drew.heap[gb]? =some (aB cur 193 (0,0)):=hh;have hone:∀u∈py (Ms.drop (i+1)),u.oneCell'=true:=λu hu=>by
  have⟨m,hm,hu⟩:=List.mem_flatMap.1 hu;have⟨a,n,c,e⟩:=ho m (List.mem_of_mem_drop hm);exact Jk (w:=w) (p:=0) (g:=none) (v:=undef) m e u hu
 have hrun:=λty=>by
  have:=run_append_room_cells (P:=prog) w.drew 166 ty 193 i0 underlying166 hi0 gb off i cap ad (k-i) (cap-(i+1)) (py (Ms.drop (i+1))) (by rw[hz1];exact hnl)
   (λj u hu=>by
    have hj:j<(k-i)*5:=by rw[<-hnl];exact(List.getElem?_eq_some_iff.1 hu).1
    rw[hadd (by omega)];have e:(⟨gb,off+(i+1)*5,none⟩:Addr).add j=⟨gb,off+(i+1)*5+j,none⟩:=by cases j<;>simp[Addr.add]
    rw[e];simp only[World.cell?,hdr];rw[Nat.add_assoc,MF _ (by omega),<-Tw Ms i j (by omega),hu];rfl)
   hone (by omega) (λj hj=>by
    rw[hnl]at hj;rw[hz1];simp only[World.cell?,hdr];rw[Array.getElem?_eq_getElem (by omega)];rfl) (λj hj=>bB hdr _)
  rw[hz1,show i+(k-i)=k by omega]at this;exact this
 obtain⟨t,ht⟩:∃t,t=w.drew.setCells gb (off+i*5) (py (Ms.drop (i+1))):=⟨_,rfl⟩
 rw[<-ht]at hrun;have gt:aQ [gb] w t:=by
  rw[ht];exact((aQ.refl _ w).drew).trans (kI _ _ _ _)
 have Sz:t.heap[gb]? =some (aB (su cur (off+i*5) (py (Ms.drop (i+1)))) 193 (0,0)):=by
  rw[ht];exact iB _ _ _ _ _ _ _ hdr
 have⟨vs,hvl,Qj⟩:=Ah t gb (off+k*5) (cap-k) _ Sz (by rw[j9];omega);have adj:aQ [gb] t (t.setCells gb (off+k*5) vs):=kI _ _ _ _;have hel:(Ms.eraseIdx i).length=k:=by rw[List.length_eraseIdx];split<;>omega
 have hfin:Seg (t.setCells gb (off+k*5) vs) 193 5 (some gb) (av (some ⟨gb,off,none⟩) k cap) (py (Ms.eraseIdx i)) k/\aQ [gb] w (t.setCells gb (off+k*5) vs):=by
  refine⟨⟨by rw[oe,hel],.inr ⟨gb,off,cap,_,rfl,rfl,iB _ _ _ _ _ _ _ Sz,by omega,by unfold maxLen;omega,by rw[j9,j9];omega,λj hj=> ?_⟩⟩,gt.trans adj⟩;rw[oP _ _ _ _ (by rw[j9];omega),if_neg (by omega),oP _ _ _ _ (by rw[hnl];omega),hnl,Qi];have htl:(py (Ms.take i)).length=i*5:=by rw[oe,List.length_take,hk];congr 1;omega
  by_cases hji:j<i*5
  .rw[if_neg (by omega),MF j (by omega),List.getElem?_append_left (by omega),Tx Ms i j (by omega) hji]
  .rw[if_pos (by omega),List.getElem?_append_right (by omega),htl]
   congr 1;omega
 have gN:=au hrun;have ahO:=au Qj;have ke:=au hfin;have hne:¬cap=k:=by omega
 have htl:=az Sz;clear hh MF hrun hdr hone ht gt Sz hvl Qj adj hfin hel hnl hcl;go_in;go_upto_region 5 with fail
 rw[had]at Ty;go_region_law (first
  |(refine kM (by rfl) (.tmp 22) (.tmp 25) 166 (by rfl) _ _ _ t (by rfl) (by kernel_rfl) (gN.o _) ?_)
  |fail)
 all_goals
  have Qj:=ahO.o;go_wp2_with (simp only[Qj]);go_ret;exact⟨_,rfl,ke.o⟩
def GV.val(x:GV)(fv:ah):ah:=aG #[x.id,x.lh,x.tO,fv,aw x.sp]
def uX:∀(a:List GM) (i:Nat),i<a.length->(a.filterMap GM.fb).Nodup->∀x,(a.getD i ()).fb=some x->x∉(a.eraseIdx i).filterMap GM.fb
 | [],i,h,_,_,_=>by simp at h
 |m::a,0,_,hd,x,e=>by
  have b:m.fb=some x:=e;simp only[List.filterMap_cons,b,ji]at hd;simpa using hd.1
 |m::a,i+1,h,hd,x,e=>by
  have b:(a.getD i ()).fb=some x:=by simpa using e
  have f:i<a.length:=by simpa using h
  have c:x∈a.filterMap GM.fb:=List.mem_filterMap.2 ⟨a.getD i (),by simp[aU,f],b⟩;have d:(a.filterMap GM.fb).Nodup:=by
   rw[List.filterMap_cons]at hd;split at hd
   .exact hd
   .exact(List.nodup_cons.1 hd).2
  have g:=uX a i f d x b
  show x∉(m::a.eraseIdx i).filterMap GM.fb
  rw[List.filterMap_cons]at hd⊢;cases hm:m.fb with
  |none=>simpa using g
  |some y=>
   rw[hm]at hd;simp only[ji]at hd;simp only[bQ,not_or];refine⟨?_,g⟩;rintro rfl;exact hd.1 c
def sw.del{u y:ae}{p o:Nat}{v v':ah}{t next:Int}{a:List GM}{i:Nat}(h:sw u p (some o) v t next a)(H:i<a.length)(N:Seg y 193 5 (some o) v' (py (a.eraseIdx i)) (a.length-1))(M:aQ [o] u y):
 sw (y.setCell ⟨p,2,none⟩ v') p (some o) v' t next (a.eraseIdx i)/\aQ [p,o] u (y.setCell ⟨p,2,none⟩ v')/\
  Seg (y.setCell ⟨p,2,none⟩ v') 5 1 (a.getD i ()).fb (a.getD i ()).fv (lJ (a.getD i ()).g.fr) (a.getD i ()).g.fr.length/\(∀x,(a.getD i ()).fb=some x->x∉dG p (some o) (a.eraseIdx i)/\x∈dG p (some o) a)/\
  (∃q,y.cell? ⟨p,2,none⟩=some q)/\y.frozen? ⟨p,2,none⟩=false/\p<y:=by
 have⟨I,J⟩:=Jj h;have B:=h.d;simp only[dG,ji,List.nodup_append]at B;obtain⟨O,K,C,z⟩:=B;have r:=M.at h.c (by simpa using I);have w:aQ [p] y (y.setCell ⟨p,2,none⟩ v'):=(aQ.refl _ _).setCell _ (by simp) _;have j:aQ [p,o] u (y.setCell ⟨p,2,none⟩ v'):=(M.mono (by simp)).trans (w.mono (by simp));have k:=List.eraseIdx_sublist a i;have A:((a.eraseIdx i).filterMap GM.fb).Sublist (a.filterMap GM.fb):=k.filterMap _;have E:(a.eraseIdx i).length=a.length-1:=by rw[List.length_eraseIdx];simp[H]
 have L:o≠p:=λe=>I (by simp[e])
 have F:∀m∈a,∀x,m.fb=some x->x∉[p,o]:=λm G x s e=>by
  have b:=List.mem_filterMap.2 ⟨m,G,s⟩;simp only[bQ,ez,or_false]at e;obtain rfl|rfl:=e
  .exact J b
  .exact z x (by simp) x b rfl
 have n:a.getD i ()∈a:=by simp[aU,H]
 refine⟨⟨by simpa using aE (i:=2) r v',?_,λm G=>(h.f m (k.subset G)).bH j (F m (k.subset G)),?_,h.m1,h.m2,h.n1,h.n2,by have:=h.l;rw[E];omega⟩,j,(h.f _ n).bH j (F _ n),λx s=> ?_,⟨v,aF r _ rfl⟩,bB r _,az r⟩
 .rw[E]
  exact N.bH w λx s=>by
   simp only[bA]at s;subst s;simpa using L
 .simp only[dG,ji,List.nodup_append,dJ,not_or]
  exact⟨⟨I,λe=>J (A.subset e)⟩,K,C.sublist A,λx s y P=>z x s y (A.subset P)⟩
 .have b:=List.mem_filterMap.2 ⟨_,n,s⟩
  refine⟨λe=> ?_,by simp only[dG,bQ,dJ];exact .inr (.inr b)⟩;simp only[dG,bQ,dJ]at e;obtain rfl|e|e:=e
  .exact J b
  .exact z x e x b rfl
  .exact uX a i H C x s e
def kN{fn:Func}{c u:Tmp}{d:TypeId}{P:Program}{g:Nat}{v:ah}{a:Array ah}(h:fn.results= #[.cell c d,.tmp u])(e:a.getD c undef=aL (some g))
 (b:(loadVar d ⟨g,0,none⟩).run P w=.ok v w):(results fn a).run P w=.ok (aM #[v,a.getD u undef]) w:=by
 simp[results,h,asAddr,Result.andThen];simp at e;rw[e];simp[b]
def GV.cells(x:GV)(fv:ah):List ah:=[an ar x.id,an ar x.lh,an ar x.tO,fv,aw x.sp]
def D3{g:Nat}{x:GV}{fa:Option Addr}{fn fc:Nat}(h:w.heap[g]? =some (aB (x.cells (av fa fn fc)).toArray 193 (0,0))):(loadVar 193 ⟨g,0,none⟩).run prog w=.ok (x.val (av fa fn fc)) w:=
 run_loadVar_row w g 193 193 _ (0,0) _ h underlying193 rfl (by kernel_rfl)
def Qk{g:Nat}{x0:GV}{fv0:ah}(h:w.heap[g]? =some (aB (x0.cells fv0).toArray 193 (0,0)))(x:GV)(a:ah):
 ((World.setCell (World.setCell (World.setCell (World.setCell (World.setCell w ⟨g,0,none⟩ x.id) ⟨g,1,none⟩ x.lh) ⟨g,2,none⟩ x.tO) ⟨g,3,none⟩ (a)) ⟨g,4,none⟩ (aw x.sp))).heap[g]? =some (aB (x.cells a).toArray 193 (0,0)):=by
 have b:=h;simp only[GV.cells]at b;have c:=aE (i:=0) b x.id;simp only[dF,cC,ct]at c;have d:=aE (i:=1) c x.lh;simp only[dF,cC,ct]at d;have e:=aE (i:=2) d x.tO;simp only[dF,cC,ct]at e;have f:=aE (i:=3) e (a);simp only[dF,cC,ct]at f;have j:=aE (i:=4) f (aw x.sp);simp only[dF,cC,ct]at j;exact j
def Tz(w:ae)(g:Nat)(x:GV)(a:ah):aQ [g] w (World.setCell (World.setCell (World.setCell (World.setCell (World.setCell w ⟨g,0,none⟩ x.id) ⟨g,1,none⟩ x.lh) ⟨g,2,none⟩ x.tO) ⟨g,3,none⟩ (a)) ⟨g,4,none⟩ (aw x.sp)):=
 (aQ.setCell (aQ.setCell (aQ.setCell (aQ.setCell (aQ.setCell (aQ.refl [g] w) ⟨g,0,none⟩ (by simp) x.id) ⟨g,1,none⟩ (by simp) x.lh) ⟨g,2,none⟩ (by simp) x.tO) ⟨g,3,none⟩ (by simp) (a)) ⟨g,4,none⟩ (by simp) (aw x.sp))
def D4{b c:Type}(f:b->c):∀(l:List b) (i:Nat),(l.eraseIdx i).map f=(l.map f).eraseIdx i
 | [],_=>rfl
 |_::_,0=>rfl
 |a::l,i+1=>by
  show f a::(l.eraseIdx i).map f=f a::(l.map f).eraseIdx i
  rw[D4 f l i]
def OO:GV:=⟨0,0,0,[],false⟩
variable{L:List GV}
def NF.here{B:Nat}{w':ae}{p:Nat}{a next:Int}(h:NF B F w p a next L)(b:ai w w w'):NF B F w' p a next L/\ai B w w'/\Kept F w w':=by
 refine⟨h.bH (aQ.of_below b),b.mono h.size,?_⟩;obtain⟨g,v,e,_,_,_,_,c⟩:=h;exact Kept.dC (S:=[]) (aQ.of_below b) (λx d=>(c x d).1) (by simp)
def Ql{B:Nat}{p:Nat}{a next:Int}(h:NF B F w p a next L)(i:Int)(d:qm L.length i=false):
 aj prog 98 #[p,(i:Int)] w λe w'=>e=ax (aM #[OO.val (),aw false])/\ai w w w':=by
 obtain⟨g,v,f,c,rfl,_⟩:=h;have b:=λo=>isC (c.kept (Kept.dC ((aQ.refl ([]:List Nat) w).alloc o) c.lt (by simp))) i
 rw[show qm f.length i=false by simpa using d]at b;go_in;go_wp2_with fail
 refine aH (b _) ?_;go_wp2;refine fS (kN rfl rfl (D3 (x:=OO) (a_ w _))) rfl ?_;exact⟨rfl,(aO _ _).alloc (aP _) _⟩
def MG{B:Nat}{p:Nat}{Q next:Int}(h:NF B F w p Q next L)(i:Nat)(hi:i<L.length):
 aj prog 98 #[p,(i:Int)] w λe w'=>∃fv,e=ax (aM #[(L.getD i ()).val fv,aw true])/\∃fb,Seg w' 5 1 fb fv (lJ (L.getD i ()).fr) (L.getD i ()).fr.length/\
  NF B (fb.toList++F) w' p Q next (L.eraseIdx i)/\ai B w w'/\Kept F w w':=by
 obtain⟨g,v,C,E,rfl,hB,hBs,hF⟩:=h;have G:i<C.length:=by simpa using hi
 have W:=λo=>isC (E.kept (Kept.dC ((aQ.refl ([]:List Nat) w).alloc o) E.lt (by simp))) i
 rw[show qm C.length i=true by unfold qm;simp;omega]at W;obtain⟨N,off,cap,rfl,rfl,hgl,hcl⟩:=E.s.cell (by decide) i G;have hgd:(C.map GM.g).getD i ()=(C.getD i ()).g:=by simp[aU,G]
 have T:C.getD i ()∈C:=by simp[aU,G]
 have hff:=E.f _ T;have H:∀j u,(C.getD i ()).cells[j]? =some u->j<5->w.cell? ⟨N,off+i*5+j,none⟩=some u:=λj u J hj=>(hcl j u hj (by rw[oh C i j G hj,J])).1
 have TA:=E.l;have hm2:=E.m2;obtain⟨k,hk⟩:∃k,C.length=k+1:=⟨C.length-1,by omega⟩
 have U:∀m∈C,∃a n c,m.fv=av a n c:=λm hm=>by
  obtain⟨a,c,e,_⟩:=(E.f m hm).len;exact⟨a,_,c,e⟩
 have hdl:=λu J=>ahM (w:=u) hk (by have:=(E.s.bH (w':=u) (S:=[]) J (by simp));rw[hk]at this;exact this) (i:=i) (by omega) (by omega) U
 have K:=λu y v' (J:aQ ([]:List Nat) w u) hs hc=>sw.del (u:=u) (y:=y) (v':=v') (E.kept (Kept.dC J E.lt (by simp))) G hs hc
 rw[hgd];generalize hmm:C.getD i ()=m at*;obtain⟨⟨d1,d2,d3,O,sp⟩,fv,fb⟩:=m;obtain⟨fa,fc,hfv,_⟩:=hff.len;simp only at hfv;subst hfv;have w0:=H 0 _ rfl (by decide);have w1:=H 1 _ rfl (by decide);have w2:=H 2 _ rfl (by decide);have w3:=H 3 _ rfl (by decide);have w4:=H 4 _ rfl (by decide);simp only[bM]at w0 w1 w2 w3 w4;have hp:=az E.c;have c2:w.cell? ⟨p,2,none⟩=some (av (some ⟨N,off,none⟩) (k+1) cap):=by simp[World.cell?,E.c,hk]
 obtain⟨u,J⟩:=aD ((w.alloc (aB #[an ar 0,an ar 0,an ar 0,(),aw false] 193 (0,0))).alloc (aB #[d1,d2,d3,av fa O.length fc,aw sp] 193 (0,0)));have gu:aQ ([]:List Nat) w u:=J▸((aQ.refl _ _).alloc _).alloc _;have hz:u.heap[w.heap.size]? =some (aB #[an ar 0,an ar 0,an ar 0,(),aw false] 193 (0,0)):=by
  rw[J,fH _ _ _ (by simp)];exact a_ _ _
 have hr:u.heap[w.heap.size+1]? =some (aB #[d1,d2,d3,av fa O.length fc,aw sp] 193 (0,0)):=by
  rw[J];have:=a_ (w.alloc (aB #[an ar 0,an ar 0,an ar 0,(),aw false] 193 (0,0))) (aB #[d1,d2,d3,av fa O.length fc,aw sp] 193 (0,0));simpa using this
 have P:=gu.at E.c (by simp);rw[hk]at P;have k2:=aF P 2 rfl;have hpl:=az P;have i1:(0:Int)<=(i:Int):=by omega
 have i2:(i:Int)<(k:Int)+1:=by omega
 obtain⟨HDL,HST,HU,HZ,HR,HN⟩:=eC (hdl u gu) (λy v' hs hc=>K u y v' gu hs hc) J hz hr E;obtain⟨GU,HK⟩:=aK gu hk;have hpn:p≠w.heap.size/\p≠w.heap.size+1/\N≠w.heap.size/\N≠w.heap.size+1:=by omega
 clear hcl hgd T hff H U hdl K hmm J hz hr E gu P G hi;go_in;go_wp2_with fail
 refine aH (W _) ?_;clear W;go_upto_region 4 with fail
 rw[<-HU.o];go_wp2_with fail
 refine HDL.m ?_;rintro e y ⟨v',rfl,s',c'⟩;obtain⟨va,vc,rfl,_⟩:=s'.len;obtain⟨X,z,Z,hfb,⟨q,hq⟩,hfz,hpy⟩:=HST.o y _ (by rw[HK.o];exact s') c';obtain⟨t,ht⟩:=aD (y.setCell ⟨p,2,none⟩ (av va k vc));rw[<-ht]at X z Z;have d:=z.at HZ.o (by simp;omega);have I:=z.at HR.o (by simp;omega);have m0:=aF I 0 rfl;have z0:=aF d 0 rfl;have y0:=bB d 0;have m1:=aF I 1 rfl;have z1:=aF d 1 rfl;have y1:=bB d 1;have m2:=aF I 2 rfl;have z2:=aF d 2 rfl;have y2:=bB d 2;have m3:=aF I 3 rfl;have z3:=aF d 3 rfl;have y3:=bB d 3;have m4:=aF I 4 rfl;have z4:=aF d 4 rfl;have y4:=bB d 4;obtain⟨HT,HTZ,HN2,ahP,SFR,Zb⟩:=eC ht d X ((GU.o.mono (by simp)).trans z) Z hfb;clear X z Z hfb d I ht s' c';go_upto_region 5 with fail
 rw[<-HT.o];go_wp2_with fail
 generalize hY:World.setCell (World.setCell (World.setCell (World.setCell (World.setCell t _ _) _ _) _ _) _ _) _ _=Y;have hYz:Y.heap[w.heap.size]? =some (aB ((⟨d1,d2,d3,O,sp⟩:GV).cells (av fa O.length fc)).toArray 193 (0,0)):=by
  rw[<-hY];exact Qk (x0:=OO) (fv0:=av none 0 0) HTZ.o ⟨d1,d2,d3,O,sp⟩ (av fa O.length fc)
 have gY:aQ [w.heap.size] t Y:=by
  rw[<-hY];exact Tz t w ⟨d1,d2,d3,O,sp⟩ (av fa O.length fc)
 clear hY;have hbt:=ahP.o;have A:=hbt.new gY (by simp);have M:∀x∈dG p (some N) (C.eraseIdx i),x∈dG p (some N) C:=λx b=>by
  simp only[dG,bQ,dJ]at b⊢;obtain b|b|b:=b
  .exact .inl b
  .exact .inr (.inl b)
  .exact .inr (.inr ((List.eraseIdx_sublist C i).filterMap _|>.subset b))
 have r:=λx b=>HN.o.lt x b
 have V:∀x∈[p,N],x∈dG p (some N) C:=λx b=>by
  simp only[bQ,ez,or_false]at b;rcases b with rfl|rfl<;>simp[dG]
 refine fS (kN rfl rfl (D3 hYz)) rfl ?_;refine⟨_,rfl,fb,SFR.o.bH gY (λx b=> ?_),⟨some N,_,_,HN2.o.kept (Kept.dC gY HN2.o.lt λx b=> ?_),D4 _ _ _,λx b=>hB x (M x b),bD hBs A.size,λx b=> ?_⟩,A.below (λx b=>hB x (V x b)) hBs,Kept.dC A (λx b=>(hF x b).1) (λx b e=>(hF x b).2 (V x e))⟩
 .have:=r x (Zb.o x b).2
  simp only[cm];omega
 .have:=r x (M x b)
  simp only[cm];omega
 .obtain b|b:=List.mem_append.1 b
  .have hx':fb=some x:=by simpa using b
   have:=r x (Zb.o x hx').2;exact⟨bP this A.size,(Zb.o x hx').1⟩
  .exact⟨bP (hF x b).1 A.size,λe=>(hF x b).2 (M x e)⟩
def rM{n:Nat}{i:Int}(h:qm n i=true):∃k:Nat,i=k/\k<n:=by
 unfold qm at h;simp at h;exact⟨i.toNat,by omega,by omega⟩
def gG(L:List GV)(i:Int):List GV:=if qm L.length i then L.eraseIdx i.toNat else L
def ij(L:List GV)(i:Int):GV:=if qm L.length i then L.getD i.toNat ()else OO
def Jl{B:Nat}{F:List Nat}{w:ae}{p:Nat}{a next:Int}{L:List GV}(h:NF B F w p a next L)(i:Int):
 aj prog 98 #[p,(i:Int)] w λe w'=>∃c,e=ax (aM #[(ij L i).val c,aw (qm L.length i)])/\∃d,Seg w' 5 1 d c (lJ (ij L i).fr) (ij L i).fr.length/\
  NF B (d.toList++F) w' p a next (gG L i)/\ai B w w'/\Kept F w w':=by
 cases hi:qm L.length i
 .refine(Ql h i hi).mono λe w' ⟨f,b⟩=>⟨av none 0 0,f.trans ?_,none,?_,?_,(h.here b).2.1,(h.here b).2.2⟩
  .unfold ij;rw[hi];rfl
  .unfold ij;rw[hi];exact Seg.nil _ _ _
  .unfold gG;rw[hi];exact(h.here b).1
 .obtain⟨k,rfl,g⟩:=rM hi
  have j:ij L k=L.getD k ():=by unfold ij;rw[hi];simp
  have l:gG L k=L.eraseIdx k:=by unfold gG;rw[hi];simp
  rw[j,l];exact MG h k g
def adm{B:Nat}{F:List Nat}{w:ae}{p:Nat}{a next:Int}{L:List GV}(h:NF B F w p a next L)(i:Int):
 aj prog 68 #[p,(i:Int)] w λe w'=>e=ax (aM #[an ar (ij L i).id,aw (qm L.length i)])/\NF B F w' p a next (gG L i)/\ai B w w'/\Kept F w w':=by
 have t:=Jl h i;have j:∀x∈F,x<w:=by
  obtain⟨g,v,W,_,_,_,_,N⟩:=h;exactλx O=>(N x O).1
 generalize qm L.length i=bb at*;generalize gG L i=L2 at*;generalize ij L i=G at*;obtain⟨u,A,C,k,E⟩:=G;have b:aj prog 98 #[p,(i:Int)] w λe w'=>∃l,e=ax (aM #[aG #[u,A,C,l,aw E],aw bb])/\∃n,Seg w' 5 1 n l (lJ k) k.length/\
  NF B (n.toList++F) w' p a next L2/\ai B w w'/\Kept F w w':=t
 have P:=au b;clear t b h;go_in;go_wp2_with fail
 refine P.m ?_;rintro e x ⟨l,rfl,n,H,q,r,I⟩;obtain⟨Q,T,rfl,_⟩:=H.len;have⟨y,d⟩:=aD (x.alloc (aB #[u,A,C,av Q k.length T,aw E] 193 (0,0)));have f:aQ ([]:List Nat) x y:=d▸(aQ.refl _ _).alloc _;have c:=d▸a_ _ _;have X:=aF c 0 rfl;have J:=(q.mono (F':=F) (λz s=>List.mem_append_right _ s)).bH (f.mono (by simp));have K:=r.trans (f.aJ.mono q.size);have M:=I.trans (Kept.dC f (λz s=>bP (j z s) r.size) (by simp));have⟨U,V⟩:=aK (And.intro J (And.intro K M)) d;clear H q r I f c J K M d;go_upto_region 2 with fail
 rw[<-V.o];go_wp2;go_ret2;exact⟨rfl,U.o⟩
def iw{w:ae}{e sz b a n c j:Nat}{cs:List ah}(h:Seg w e sz (some b) (av (some ⟨b,a,none⟩) n c) cs n)(x:j<n*sz)(u:ah):
 Seg (w.setCell ⟨b,a+j,none⟩ u) e sz (some b) (av (some ⟨b,a,none⟩) n c) (cs.set j u) n:=by
 obtain⟨m,⟨o,_⟩|⟨y,d,f,p,g,i,q,l,r,s,t⟩⟩:=h
 .cases o
 .simp only[bA]at g
  subst g;simp only[bG,bA,dr,et,bK]at i;obtain⟨rfl,rfl⟩:=i;have z:n*sz<=c*sz:=Nat.mul_le_mul_right _ l;refine⟨by simpa using m,.inr ⟨b,a,c,_,rfl,rfl,aE q u,l,r,by simpa using s,λk v=> ?_⟩⟩;simp only[pB,iW];by_cases e:j=k
  .subst e
   rw[aI rfl,aI (by omega),aI rfl,aI (by omega)]
  .rw[aC (by omega),aC e]
   exact t k v
def Z5(b:List GM)(i:Nat)(m:GM)(d:i<b.length)(c:m.fb=(b.getD i ()).fb):(b.set i m).filterMap GM.fb=b.filterMap GM.fb:=by
 induction b generalizing i with
 |nil=>rfl
 |cons a l e=>
  cases i with
  |zero=>
   have:m.fb=a.fb:=c;simp only[cC,List.filterMap_cons,this]
  |succ i=>
   have:=e i (by simpa using d) (by simpa using c);simp only[ct,List.filterMap_cons,this]
def GV.turn(x:GV)(idx:Nat)(z:Int):GV:={x with fr:=x.fr.set idx z,sp:=true}
def WV(a:List GM)(i:Nat)(m:GM)(h:i<a.length)(f:∀j,j<5->m.cells[j]? =if j=4 then some (aw true)else(a.getD i ()).cells[j]?):py (a.set i m)=(py a).set (i*5+4) (aw true):=by
 apply List.ext_getElem?;intro q;by_cases g:q<a.length*5
 .obtain⟨k,j,c,rfl⟩:∃k j,j<5/\q=k*5+j:=⟨q/5,q%5,Nat.mod_lt _ (by decide),by omega⟩
  have b:k<a.length:=by omega
  rw[oh _ k j (by simpa using b) c,iW,oh a k j b c];by_cases e:k=i
  .subst e
   have:(a.set k m).getD k ()=m:=by simp[aU,b]
   rw[this,f j c];by_cases d:j=4
   .subst d
    rw[aI rfl,aI rfl,aI (by rw[oe];omega)]
   .rw[aC d,aC (by omega)]
  .rw[aC (by omega)]
   congr 1;simp[aU,b,iW,Ne.symm e]
 .rw[oz (by rw[oe];simpa using g),oz (by rw[ds,oe];omega)]
def sw.TB{w:ae}{p g n F:Nat}{o next:Int}{b:List GM}{i:Nat}(h:sw w p (some g) (av (some ⟨g,n,none⟩) b.length F) o next b)(O:i<b.length){x:GV}{m A fc:Nat}(G:b.getD i ()=⟨x,av (some ⟨m,A,none⟩) x.fr.length fc,some m⟩)(a:Nat)(hx:a<x.fr.length)(z:Int):
 sw ((w.setCell ⟨m,A+a,none⟩ (.int .u8 z)).setCell ⟨g,n+i*5+4,none⟩ (aw true)) p (some g) (av (some ⟨g,n,none⟩) b.length F) o next (b.set i ⟨x.turn a z,av (some ⟨m,A,none⟩) x.fr.length fc,some m⟩)/\
  aQ [m,g] w ((w.setCell ⟨m,A+a,none⟩ (.int .u8 z)).setCell ⟨g,n+i*5+4,none⟩ (aw true))/\(m∈dG p (some g) b/\g∈dG p (some g) b)/\
  dG p (some g) (b.set i ⟨x.turn a z,av (some ⟨m,A,none⟩) x.fr.length fc,some m⟩)=dG p (some g) b:=by
 have⟨Z,n2⟩:=Jj h;have H:=h.d;simp only[dG,ji,List.nodup_append]at H;obtain⟨hd1,hd2,T,I⟩:=H;have u:b.getD i ()∈b:=by simp[aU,O]
 have B:m∈b.filterMap GM.fb:=List.mem_filterMap.2 ⟨_,u,by rw[G]⟩;have J:m≠g:=λe=>I g (by simp) m B e.symm
 have U:m≠p:=λe=>n2 (e▸B)
 have V:g≠p:=λe=>Z (by simp[e])
 have v:dG p (some g) (b.set i ⟨x.turn a z,av (some ⟨m,A,none⟩) x.fr.length fc,some m⟩)=dG p (some g) b:=by
  unfold dG;rw[Z5 b i _ O (by rw[G])]
 have⟨y,W⟩:=aD (w.setCell ⟨m,A+a,none⟩ (.int .u8 z));have P:aQ [m] w y:=W▸(aQ.refl _ _).setCell _ (by simp) _;have⟨t,X⟩:=aD (y.setCell ⟨g,n+i*5+4,none⟩ (aw true));have Q:aQ [g] y t:=X▸(aQ.refl _ _).setCell _ (by simp) _;rw[<-W,<-X];have K:=h.f _ u;rw[G]at K;refine⟨⟨Q.at (P.at h.c (by simpa using Ne.symm U)) (by simpa using Ne.symm V),?_,λk hk=> ?_,by rw[v];exact h.d,h.m1,h.m2,h.n1,h.n2,by simpa using h.l⟩,(P.mono (by simp)).trans (Q.mono (by simp)),⟨by simp only[dG,bQ,dJ];exact .inr (.inr B),by simp[dG]⟩,v⟩
 .rw[ds,WV b i _ O (λj hj=>by
   rw[G]
   match j,hj with
   |0,_=>rfl
   |1,_=>rfl
   |2,_=>rfl
   |3,_=>rfl
   |4,_=>rfl)]
  rw[X,Nat.add_assoc];refine iw (h.s.bH P λq C=> ?_) (by omega) _;simp only[bA]at C;subst C;simpa using Ne.symm J
 .obtain⟨q,C,rfl⟩:=lG hk
  have L:q<b.length:=by simpa using C
  rw[List.getElem_set];by_cases e:i=q
  case neg=>
   rw[aC e];have M:=eA L;refine((h.f _ M).bH P λr Y E=> ?_).bH Q λr Y E=> ?_
   .simp only[cm]at E
    subst E;have h1:r∈(b.eraseIdx i).filterMap GM.fb:=by
     refine List.mem_filterMap.2 ⟨b[q],?_,Y⟩;rw[List.mem_eraseIdx_iff_getElem];exact⟨q,L,Ne.symm e,rfl⟩
    exact uX b i O T r (by rw[G]) h1
   .simp only[cm]at E
    subst E;exact I _ (by simp) _ (List.mem_filterMap.2 ⟨_,M,Y⟩) rfl
  case pos=>
   rw[aI e];have N:=iw (j:=a) K (by omega) (.int .u8 z);rw[<-W]at N;have e1:lJ (x.turn a z).fr=(lJ x.fr).set a (.int .u8 z):=by simp[lJ,GV.turn,List.map_set]
   have E:(x.turn a z).fr.length=x.fr.length:=by simp[GV.turn]
   simp only;rw[e1,E];refine N.bH Q λq C=> ?_
   simp only[bA]at C;subst C;simpa using J
abbrev iG:=Int×Int
def lK(l:List iG):List ah:=l.flatMap λx=> [an ar x.1,an ar x.2]
def tR(l:List iG):(lK l).length=l.length*2:=by
 induction l with
 |nil=>rfl
 |cons a l b=>simp only[lK,eI,bF]at*;simp[b];omega
def fK(L:List iG)(k j:Nat)(b:k<L.length)(c:j<2):(lK L)[k*2+j]? =([an ar (L.getD k ()).1,an ar (L.getD k ()).2]:List ah)[j]? :=by
 induction L generalizing k with
 |nil=>simp at b
 |cons a l d=>
  have e:lK (a::l)=[an ar a.1,an ar a.2]++lK l:=by simp[lK]
  cases k with
  |zero=>
   rw[e,Nat.zero_mul,eJ,gZ (by simpa using c)];rfl
  |succ k=>
   rw[e,g_ (by simp;omega),show(k+1)*2+j-([an ar a.1,an ar a.2]:List ah).length=k*2+j by simp;omega,d k (by simpa using b)];rfl
def oV(x y:iG):Bool:=decide (I7 (jJ x.1 y.1) (jJ x.2 y.2)<0)
def Jm{w:ae}{g:Option Nat}{v:ah}{l:List iG}(h:Seg w 317 2 g v (lK l) l.length)(i j:Nat)(p:i<l.length)(q:j<l.length):
 aj prog 274 #[v,(i:Int),(j:Int)] w λe w'=>e=ax (aw (oV (l.getD i ()) (l.getD j ())))/\ai w w w':=by
 obtain⟨b,a,H,rfl,rfl,O,r⟩:=h.cell (by decide) i p;have⟨_,_,_,s,t,_,m⟩:=h.cell (by decide) j q;simp only[bA]at s;subst s;simp only[bG,bA,dr,et,bK]at t;obtain⟨rfl,rfl⟩:=t;have⟨_,_,z,A,I⟩:=h.len;simp only[bG,bK]at z;obtain⟨rfl,rfl⟩:=z;unfold maxLen at I;have B:=(r 0 _ (by decide) (by rw[fK l i 0 p (by decide)];rfl)).1;have J:=(r 1 _ (by decide) (by rw[fK l i 1 p (by decide)];rfl)).1;have C:=(m 0 _ (by decide) (by rw[fK l j 0 q (by decide)];rfl)).1;have K:=(m 1 _ (by decide) (by rw[fK l j 1 q (by decide)];rfl)).1;simp only[bM]at B C;have P:(0:Int)<=(i:Int):=by omega
 have Q:(i:Int)<(l.length:Int):=by omega
 have T:(0:Int)<=(j:Int):=by omega
 have U:(j:Int)<(l.length:Int):=by omega
 generalize l.getD i ()=x at*;generalize l.getD j ()=y at*;obtain⟨c,d⟩:=x;obtain⟨f,k⟩:=y;simp only at B J C K;have E:oV (c,d) (f,k)=decide (I7 (jJ c f) (jJ d k)<0):=rfl;rw[E];have F:=λu=>zt c f u
 have G:=λu=>zt d k u
 have n:∀(u:ae),aj prog 138 #[av (some ⟨u,0,none⟩) 2 2] (u.alloc (aB #[an ar (jJ c f),an ar (jJ d k)] 3 (0,0))).drew λe w'=>e=ax (I7 (jJ c f) (jJ d k):Int)/\(u.alloc (aB #[an ar (jJ c f),an ar (jJ d k)] 3 (0,0))).drew=w':=λu=>orC _ _ _ _ (a_ _ _)
 generalize I7 (jJ c f) (jJ d k)=z3 at*;generalize jJ c f=z1 at*;generalize jJ d k=z2 at*;have⟨L,M,N⟩:=aX F G n;clear F G n E r m h;go_in;go_wp2_with fail
 go_region_held3 (λw'=>w'.cell? ⟨b,a+i*2,none⟩=c/\w'.cell? ⟨b,a+i*2+1,none⟩=d/\w'.cell? ⟨b,a+j*2,none⟩=f/\w'.cell? ⟨b,a+j*2+1,none⟩=k) (go_keep) (first
  |(go_at_call 139;first|(with_reducible refine aH (L.o _) ?_)|(with_reducible refine aH (M.o _) ?_))
  |(go_at_call 138;(with_reducible refine aH (N.o _) ?_)))
 all_goals
  go_wp2_with fail
  go_ret;exact⟨rfl,(((aQ.refl ([]:List Nat) w).alloc _).trans (aQ.refl _ _).drew).aJ⟩
def Jn(L:List iG)(k:Nat)(x:iG)(f:k<L.length):lK (L.set k x)=((lK L).set (k*2) (x.1:Int)).set (k*2+1) (x.2:Int):=by
 apply List.ext_getElem?;intro q;by_cases g:q<L.length*2
 .obtain⟨i,r,a,rfl⟩:∃i r,r<2/\q=i*2+r:=⟨q/2,q%2,Nat.mod_lt _ (by decide),by omega⟩
  have b:i<L.length:=by omega
  have d:=tR L;rw[fK _ i r (by simpa using b) a,iW,iW];by_cases e:k=i
  .subst e
   have c:(L.set k x).getD k ()=x:=by simp[aU,b]
   rw[c]
   match r,a with
   |0,_=>rw[aC (by omega),aI (by omega),aI (by omega)];rfl
   |1,_=>rw[aI (by omega),aI (by rw[ds];omega)];rfl
  .have c:(L.set k x).getD i ()=L.getD i ():=by simp[aU,iW,e]
   rw[c,aC (by omega),aC (by omega),fK _ i r b a]
 .rw[oz (by rw[tR,ds];omega),oz (by rw[ds,ds,tR];omega)]
def OP{w:ae}{b a c n:Nat}{l:List iG}(h:Seg w 317 2 (some b) (av (some ⟨b,a,none⟩) n c) (lK l) n)(e:n=l.length)(i:Nat)(d:i<l.length)(x:iG):
 Seg ((w.setCell ⟨b,a+i*2,none⟩ (x.1:Int)).setCell ⟨b,a+i*2+1,none⟩ (x.2:Int)) 317 2 (some b) (av (some ⟨b,a,none⟩) n c) (lK (l.set i x)) n:=by
 rw[Jn l i x d,Nat.add_assoc];exact iw (iw h (by omega) _) (by omega) _
def iR(l:List iG)(i j:Nat):List iG:=(l.set i (l.getD j ())).set j (l.getD i ())
def TC{w:ae}{g:Option Nat}{v:ah}{l:List iG}(h:Seg w 317 2 g v (lK l) l.length)(i j:Nat)(m:i<l.length)(n:j<l.length)(p:i≠j):
 aj prog 275 #[v,(i:Int),(j:Int)] w λe w'=>e=ax (aM #[])/\(Seg w' 317 2 g v (lK (iR l i j)) l.length/\aQ g.toList w w'):=by
 have H:=au h;obtain⟨b,a,J,rfl,rfl,Q,q⟩:=h.cell (by decide) i m;obtain⟨_,_,_,t,u,_,c⟩:=h.cell (by decide) j n;simp only[bA]at t;subst t;simp only[bG,bA,dr,et,bK]at u;obtain⟨rfl,rfl⟩:=u;obtain⟨_,_,z,A,K⟩:=h.len;simp only[bG,bK]at z;obtain⟨rfl,rfl⟩:=z;unfold maxLen at K;obtain⟨B,r⟩:=q 0 _ (by decide) (by rw[fK l i 0 m (by decide)];rfl);obtain⟨L,M⟩:=q 1 _ (by decide) (by rw[fK l i 1 m (by decide)];rfl);obtain⟨C,s⟩:=c 0 _ (by decide) (by rw[fK l j 0 n (by decide)];rfl);obtain⟨N,O⟩:=c 1 _ (by decide) (by rw[fK l j 1 n (by decide)];rfl);simp only[bM]at B C r s;have T:(0:Int)<=(i:Int):=by omega
 have U:(i:Int)<(l.length:Int):=by omega
 have V:(0:Int)<=(j:Int):=by omega
 have W:(j:Int)<(l.length:Int):=by omega
 .unfold iR
  generalize l.getD i ()=x at*;generalize l.getD j ()=y at*;obtain⟨E,F⟩:=x;obtain⟨G,I⟩:=y;simp only at B L C N;have X:¬j=i:=λe=>p e.symm
  have Y:¬j*2=i*2+1:=by omega
  have Z:¬i*2+1=j*2:=by omega
  have n4:¬i*2=j*2+1:=by omega
  have n5:¬j*2+1=i*2:=by omega
  have n6:¬a+j*2=a+i*2+1:=by omega
  have n7:¬a+j*2+1=a+i*2:=by omega
  have n8:¬a+j*2=a+i*2:=by omega
  have n9:¬a+j*2+1=a+i*2+1:=by omega
  have d:=OP h rfl i m (G,I);have f:=OP d (by rw[ds]) j (by rw[ds];exact n) (E,F);have k:aQ [b] w ((((w.setCell ⟨b,a+i*2,none⟩ G).setCell ⟨b,a+i*2+1,none⟩ I).setCell ⟨b,a+j*2,none⟩ E).setCell ⟨b,a+j*2+1,none⟩ F).drew:=
   (((((aQ.refl [b] w).setCell _ (by simp) _).setCell _ (by simp) _).setCell _ (by simp) _).setCell _ (by simp) _).drew
  have P:=au (And.intro (f.bH (aQ.refl ([]:List Nat) _).drew (by simp)) k);clear q c h d f k;go_in;go_region
  all_goals
   go_wp2_with fail
   go_end0
   exact⟨rfl,P.o⟩
def MH(w:ae)(a:Addr):(method 512 296 a "Len").run prog w=(load a>>=λv=>pure (273,v)).run prog w:=by kernel_rfl
def OQ(w:ae)(a:Addr):(method 512 296 a "Less").run prog w=(load a>>=λv=>pure (274,v)).run prog w:=by kernel_rfl
def Fz(w:ae)(a:Addr):(method 512 296 a "Swap").run prog w=(load a>>=λv=>pure (275,v)).run prog w:=by kernel_rfl
def Z6(w:ae)(a:Addr):(method 512 296 a "Pop").run prog w=.ok (277,aL (some a)) w:=by kernel_rfl
def WW(w:ae)(a:Addr):(method 512 296 a "Push").run prog w=.ok (278,aL (some a)) w:=by kernel_rfl
structure i_(w:ae)(p:Nat)(most:Int)(g:Option Nat)(v:ah)(l:List iG):Prop where
 c:w.heap[p]? =some (aB #[an ar most,v] 149 (0,0))
 s:Seg w 317 2 g v (lK l) l.length
 d:p∉g.toList
 n:l.length<=1000
variable{l:List iG}
def i_.bH{w':ae}{a:Int}{v:ah}(h:i_ w p a g v l)(b:aQ ([]:List Nat) w w'):i_ w' p a g v l:=⟨b.at h.c (by simp),h.s.bH b (by simp),h.d,h.n⟩
def i_.cell{a:Int}{v:ah}(h:i_ w p a g v l):w.cell? p=a/\w.cell? ⟨p,1,none⟩=v/\p<w/\∀o,w.frozen? ⟨p,o,none⟩=false:=by
 have b:=h.c;exact⟨aF b _ rfl,aF b _ rfl,az b,λo=>bB b _⟩
def FA(a:Option Addr)(n c:Nat)(w:ae):aj prog 273 #[av a n c] w λe w'=>e=ax (n:Int)/\w=w':=by
 go_in;go_wp2;go_ret;exact⟨rfl,rfl⟩
def sK(l:List iG)(i j:Nat)(a:i<l.length)(b:j<l.length)(c:i≠j):(iR l i j).Perm l:=by
 unfold iR;have d:l.getD j ()=l[j]:=by simp[aU,b]
 have e:l.getD i ()=l[i]:=by simp[aU,a]
 rw[d,e];exact List.set_set_perm a b
def oW(l:List iG)(i j:Nat):(iR l i j).length=l.length:=by simp[iR]
def D5(l:List iG)(i j q:Nat)(a:q≠i)(b:q≠j):(iR l i j).getD q ()=l.getD q ():=by
 simp[iR,aU,iW,Ne.symm a,Ne.symm b]
def i_.swap{a:Int}{v:ah}(h:i_ w p a g v l)(i j:Nat)(k:i<l.length)(m:j<l.length)(b:i≠j):
 aj prog 275 #[v,(i:Int),(j:Int)] w λe w'=>e=ax (aM #[])/\(i_ w' p a g v (iR l i j)/\aQ g.toList w w'):=
 (TC h.s i j k m b).mono λe w' ⟨o,q,f⟩=>⟨o,⟨f.at h.c h.d,by rw[oW];exact q,h.d,by rw[oW];exact h.n⟩,f⟩
def upC{c:Int}{v:ah}(h:i_ w p c g v l)(j:Nat)(hj:j<l.length):
 aj prog 175 #[.iface 296 (aL (some ⟨p,1,none⟩)),(j:Int)] w λe w'=>e=ax (aM #[])/\((∃b,b.Perm l/\(∀q,j<q->b.getD q ()=l.getD q ())/\i_ w' p c g v b)/\aQ g.toList w w'):=by
 obtain⟨a,d,rfl,L,W⟩:=h.s.len;unfold maxLen at W;have hn:=h.n;have H:=au h;have mL:=OQ;have mS:=Fz;clear h;go_in;go_wp2_with fail
 go_loopw [1] (λi wr=>∃(k:Nat) (b:List iG),i=an ar k/\k<=j/\b.length=l.length/\b.Perm l/\(∀q,j<q->b.getD q ()=l.getD q ())/\i_ wr p c g (av a l.length d) b/\aQ g.toList w wr) (λi _=>(intOf i).toNat)
 case atStart=>exact⟨j,l,rfl,aP _,rfl,List.Perm.refl _,λ_ _=>rfl,H.o,aQ.refl _ _⟩
 case round=>
  obtain⟨k,b,rfl,hk,f,B,C,u,E⟩:=hrel;have M:=au C;have⟨X,N,Y,_⟩:=u.cell;have⟨O,P,Q⟩:=aX B E u;cases k with
  |zero=>
   clear u E B f C;go_wp2
   go_end0
   exact⟨rfl,⟨b,O.o,M.o,Q.o⟩,P.o⟩
  |succ m=>
   have y:aj prog 274 #[av a l.length d,an ar ((m:Int)+1),an ar ((m:Int)/2)] wr λe w'=>e=ax (aw (oV (b.getD (m+1) ()) (b.getD (m/2) ())))/\ai wr wr w':=Jm u.s (m+1) (m/2) (by omega) (by omega)
   have Z:=au y;have A:∀x,ai wr wr x->aj prog 275 #[av a l.length d,an ar ((m:Int)/2),an ar ((m:Int)+1)] x λe w'=>e=ax (aM #[])/\(i_ w' p c g (av a l.length d) (iR b (m/2) (m+1))/\aQ g.toList x w'):=λx r=>(u.bH (aQ.of_below r)).swap (m/2) (m+1) (by omega) (by omega) (by omega)
   have⟨HS,t⟩:=aK A (show(iR b (m/2) (m+1)).Perm l/\(iR b (m/2) (m+1)).length=l.length/\∀q,j<q->(iR b (m/2) (m+1)).getD q ()=l.getD q ()from⟨(sK b _ _ (by omega) (by omega) (by omega)).trans B,by rw[oW];exact f,λq F=>by rw[D5 b _ _ q (by omega) (by omega)];exact C q F⟩);have hb:((m:Int)/2==(m:Int)+1)=false:=by simp;omega
   have q1:(m:Int)<=1000:=by omega
   generalize oV (b.getD (m+1) ()) (b.getD (m/2) ())=less at*;clear u E B f y A C;go_wp2_with fail
   refine aN Z.o ?_;intro x r;have G:=(r.cell (p:=⟨p,1,none⟩) Y).trans N;have⟨T,I,J⟩:=aX (P.o.trans (aQ.of_below (S:=g.toList) r)) (Q.o.bH (aQ.of_below r)) (HS.o x r);clear r X N;cases less
   .go_wp2
    go_end0
    exact⟨rfl,⟨b,O.o,M.o,I.o⟩,T.o⟩
   .go_wp2_with fail
    refine aN J.o ?_;rintro z ⟨U,V⟩;have⟨HZ,K⟩:=aK U (T.o.trans V);clear U V G;go_wp2;go_roundw
    case rel=>exact⟨m/2,_,rfl,by omega,t.o.2.1,t.o.1,t.o.2.2,HZ.o,K.o⟩
    case measure=>simp[intOf];omega
def adn(w:ae)(P:ae->Prop)(e:ak)(w':ae):Prop:=∃b:Bool,e=ax (aw b)/\P w'
def Zc{w:ae}{p:Nat}{t:Int}{g:Option Nat}{v:ah}{l:List iG}(h:i_ w p t g v l)(i n:Nat)(hi:i<n)(hn:n<=l.length):
 aj prog 174 #[.iface 296 (aL (some ⟨p,1,none⟩)),(i:Int),(n:Int)] w (adn w λw'=>(∃c,c.Perm l/\(∀q,n<=q->c.getD q ()=l.getD q ())/\i_ w' p t g v c)/\aQ g.toList w w'):=by
 obtain⟨a,d,rfl,hcap,hm⟩:=h.s.len;unfold maxLen at hm;have hn1:=h.n;have H:=au h;have mL:=OQ;have mS:=Fz;have r1:(n:Int)<=1000:=by omega
 clear h;go_in;go_wp2_with fail
 go_loopw [7] (λi wr=>∃(k:Nat) (c:List iG),i=an ar k/\k<n/\c.length=l.length/\c.Perm l/\(∀q,n<=q->c.getD q ()=l.getD q ())/\i_ wr p t g (av a l.length d) c/\aQ g.toList w wr) (λi _=>n-(intOf i).toNat)
 case atStart=>exact⟨i,l,rfl,hi,rfl,List.Perm.refl _,λ_ _=>rfl,H.o,aQ.refl _ _⟩
 case round=>
  obtain⟨k,c,rfl,hk,K,hp,hq,V,hc⟩:=hrel;have⟨c0,c1,hl,_⟩:=V.cell;have⟨Z,P,HH,HQ⟩:=c_ hp hc V hq;have q0:(0:Int)<=(k:Int):=by omega
  have q1:(k:Int)<=1000:=by omega
  have L:=au (show∀(x:ae) (i j:Nat),aQ ([]:List Nat) wr x->i<l.length->j<l.length->aj prog 274 #[av a l.length d,(i:Int),an ar j] x λe w'=>e=ax (aw (oV (c.getD i ()) (c.getD j ())))/\ai x x w' fromλx i j M h1 h2=>by
   have hs:=(V.bH M).s;rw[K]at hs;have:=Jm (l:=c) (by rw[K];exact hs) i j (by omega) (by omega);exact this)
  have⟨Q,T⟩:=aK (show∀(x:ae) (j:Nat),aQ ([]:List Nat) wr x->k<j->j<n->aj prog 275 #[av a l.length d,(k:Int),an ar j] x λe w'=>e=ax (aM #[])/\(i_ w' p t g (av a l.length d) (iR c k j)/\aQ g.toList x w')fromλx j M h1 h2=>(V.bH M).swap k j (by omega) (by omega) (by omega)) (show∀j,k<j->j<n->(iR c k j).Perm l/\(iR c k j).length=l.length/\∀q,n<=q->(iR c k j).getD q ()=l.getD q ()fromλj h1 h2=>⟨(sK c _ _ (by omega) (by omega) (by omega)).trans hp,by rw[oW];exact K,λq hjq=>by rw[D5 c _ _ q (by omega) (by omega)];exact hq q hjq⟩);clear V hc hp K hq;by_cases hj1:2*k+1<n
  .have g1:¬(n:Int)<=2*(k:Int)+1:=by omega
   have g2:¬2*(k:Int)+1<0:=by omega
   by_cases hj2:2*k+2<n
   .have g3:2*(k:Int)+1+1<(n:Int):=by omega
    have C:aj prog 274 #[av a l.length d,an ar (2*(k:Int)+1+1),an ar (2*(k:Int)+1)] wr λe w'=>e=ax (aw (oV (c.getD (2*k+2) ()) (c.getD (2*k+1) ())))/\ai wr wr w':=L.o wr (2*k+2) (2*k+1) (aQ.refl _ _) (by omega) (by omega)
    have HL:=au C;clear C;generalize oV (c.getD (2*k+2) ()) (c.getD (2*k+1) ())=less at*;go_wp2_with fail
    refine aN HL.o ?_;intro x M;have U:=au (ch M);have u:x.cell? ⟨p,1,none⟩=some (av a l.length d):=(M.cell (p:=⟨p,1,none⟩) hl).trans c1;have A:p<x:=bP hl M.size;clear M c0 c1;cases less
    .skip
     have b:aj prog 274 #[av a l.length d,an ar (2*(k:Int)+1),an ar (k:Int)] x λe w'=>e=ax (aw (oV (c.getD (2*k+1) ()) (c.getD k ())))/\ai x x w':=L.o x (2*k+1) k U.o (by omega) (by omega)
     have E:=au b;clear b;generalize oV (c.getD (2*k+1) ()) (c.getD k ())=Jo at*;go_wp2_with fail
     refine aN E.o ?_;intro y B;have m:=au (U.o.trans (aQ.of_below B));have F:y.cell? ⟨p,1,none⟩=some (av a l.length d):=(B.cell (p:=⟨p,1,none⟩) A).trans u;have W:p<y:=bP A B.size;clear B u;cases Jo
     .have⟨X,G⟩:=aK (HH.o.bH m.o) (P.o.trans (m.o.mono (by simp)))
      go_wp2;go_ret;exact⟨_,rfl,⟨c,Z.o,HQ.o,X.o⟩,G.o⟩
     .have r:aj prog 275 #[av a l.length d,an ar (k:Int),an ar (2*(k:Int)+1)] y λe w'=>e=ax (aM #[])/\(i_ w' p t g (av a l.length d) (iR c k (2*k+1))/\aQ g.toList y w'):=Q.o y (2*k+1) m.o (by omega) (by omega)
      have I:=au r;clear r;go_wp2_with fail
      refine aN I.o ?_;rintro z ⟨N,O⟩;have⟨Y,J,f⟩:=aX N ((P.o.trans (m.o.mono (by simp))).trans O) (T.o (2*k+1) (by omega) (by omega));clear N O F;go_wp2;go_roundw
      case rel=>exact⟨2*k+1,_,by simp,by omega,f.o.2.1,f.o.1,f.o.2.2,Y.o,J.o⟩
      case measure=>simp[intOf];omega
    .skip
     have b:aj prog 274 #[av a l.length d,an ar (2*(k:Int)+1+1),an ar (k:Int)] x λe w'=>e=ax (aw (oV (c.getD (2*k+2) ()) (c.getD k ())))/\ai x x w':=L.o x (2*k+2) k U.o (by omega) (by omega)
     have E:=au b;clear b;generalize oV (c.getD (2*k+2) ()) (c.getD k ())=Jo at*;go_wp2_with fail
     refine aN E.o ?_;intro y B;have m:=au (U.o.trans (aQ.of_below B));have F:y.cell? ⟨p,1,none⟩=some (av a l.length d):=(B.cell (p:=⟨p,1,none⟩) A).trans u;have W:p<y:=bP A B.size;clear B u;cases Jo
     .have⟨X,G⟩:=aK (HH.o.bH m.o) (P.o.trans (m.o.mono (by simp)))
      go_wp2;go_ret;exact⟨_,rfl,⟨c,Z.o,HQ.o,X.o⟩,G.o⟩
     .have r:aj prog 275 #[av a l.length d,an ar (k:Int),an ar (2*(k:Int)+1+1)] y λe w'=>e=ax (aM #[])/\(i_ w' p t g (av a l.length d) (iR c k (2*k+2))/\aQ g.toList y w'):=Q.o y (2*k+2) m.o (by omega) (by omega)
      have I:=au r;clear r;go_wp2_with fail
      refine aN I.o ?_;rintro z ⟨N,O⟩;have⟨Y,J,f⟩:=aX N ((P.o.trans (m.o.mono (by simp))).trans O) (T.o (2*k+2) (by omega) (by omega));clear N O F;go_wp2;go_roundw
      case rel=>exact⟨2*k+2,_,by simp<;>omega,by omega,f.o.2.1,f.o.1,f.o.2.2,Y.o,J.o⟩
      case measure=>simp[intOf];omega
   .have g3:¬2*(k:Int)+1+1<(n:Int):=by omega
    have U:=au (aQ.refl ([]:List Nat) wr);have u:=c1;have A:=hl;have b:aj prog 274 #[av a l.length d,an ar (2*(k:Int)+1),an ar (k:Int)] wr λe w'=>e=ax (aw (oV (c.getD (2*k+1) ()) (c.getD k ())))/\ai wr wr w':=L.o wr (2*k+1) k U.o (by omega) (by omega)
    have E:=au b;clear b;generalize oV (c.getD (2*k+1) ()) (c.getD k ())=Jo at*;go_wp2_with fail
    refine aN E.o ?_;intro y B;have m:=au (U.o.trans (aQ.of_below B));have F:y.cell? ⟨p,1,none⟩=some (av a l.length d):=(B.cell (p:=⟨p,1,none⟩) A).trans u;have W:p<y:=bP A B.size;clear B u;cases Jo
    .have⟨X,G⟩:=aK (HH.o.bH m.o) (P.o.trans (m.o.mono (by simp)))
     go_wp2;go_ret;exact⟨_,rfl,⟨c,Z.o,HQ.o,X.o⟩,G.o⟩
    .have r:aj prog 275 #[av a l.length d,an ar (k:Int),an ar (2*(k:Int)+1)] y λe w'=>e=ax (aM #[])/\(i_ w' p t g (av a l.length d) (iR c k (2*k+1))/\aQ g.toList y w'):=Q.o y (2*k+1) m.o (by omega) (by omega)
     have I:=au r;clear r;go_wp2_with fail
     refine aN I.o ?_;rintro z ⟨N,O⟩;have⟨Y,J,f⟩:=aX N ((P.o.trans (m.o.mono (by simp))).trans O) (T.o (2*k+1) (by omega) (by omega));clear N O F;go_wp2;go_roundw
     case rel=>exact⟨2*k+1,_,by simp,by omega,f.o.2.1,f.o.1,f.o.2.2,Y.o,J.o⟩
     case measure=>simp[intOf];omega
  .have g1:(n:Int)<=2*(k:Int)+1:=by omega
   go_wp2;go_ret;exact⟨_,rfl,⟨c,Z.o,HQ.o,HH.o⟩,P.o⟩
def Z7(t i id:Int)(q:Nat)(w:ae)(d:w.heap[q]? =some (aB #[id] 3 (0,0))):aj prog 173 #[aG #[t,i],q] w λe w'=>e=ax (aw (i==id))/\ai w w w':=by
 have⟨u,b⟩:=aD (w.alloc (aB #[t,i] 317 (0,0)));have⟨f,c,h⟩:=dt b;have j:=aF f 1 rfl;have a:=c.at d (by simp);have k:=aF a 0 rfl;have⟨g,G⟩:=aK b c.aJ;clear b c f d a;go_in;go_upto_region 1 with fail
 rw[<-g.o];go_wp2;go_ret;exact⟨rfl,G.o⟩
def WX{w:ae}{g:Option Nat}{v:ah}{l:List iG}(h:Seg w 317 2 g v (lK l) l.length)(id:Int)(q:Nat)(M:w.heap[q]? =some (aB #[(id:Int)] 3 (0,0))):
 aj prog 172 #[v,.func (Fn.func 173) #[] #[q]] w λe w'=>e=ax (qT (l.map Prod.snd) id:Int)/\ai w w w':=by
 obtain⟨a,U,rfl,N,V⟩:=h.len;unfold maxLen at V;have⟨H,O⟩:=aK h M;have W:=au (show∀k:Nat,k<l.length->(l.getD k ()).2=id->(∀j,j<k->(l.getD j ()).2≠id)->qT (l.map Prod.snd) id=k fromλk A X B=>uV (by simpa using A) (by simpa[aU,A]using X) (λj n=>by
  have:=B j n;have f:j<l.length:=by omega
  simpa[aU,f]using this))
 have Y:=au (show(∀j,j<l.length->(l.getD j ()).2≠id)->qT (l.map Prod.snd) id= -1 fromλB=>uW (λj n=>by
  have f:j<l.length:=by simpa using n
  have:=B j f;simpa[aU,f]using this))
 generalize qT (l.map Prod.snd) id=z at*;clear h M;go_in;go_wp2_with fail
 go_loopw [8] (λi wr=>∃k:Nat,i=an ar k/\k<=l.length/\(∀j,j<k->(l.getD j ()).2≠id)/\ai w w wr) (λi _=>l.length-(intOf i).toNat)
 case atStart=>exact⟨0,rfl,bz _,λj n=>by omega,aO _ _⟩
 case round=>
  obtain⟨k,rfl,A,C,p⟩:=hrel;have⟨E,r⟩:=aK C p;by_cases m:k<l.length
  .have⟨b,Z,cp,_,P,hl,F⟩:=(H.o.bH (ch p) (by simp)).cell (by decide) k m
   simp only[bG,bK]at P;obtain⟨rfl,rfl⟩:=P;have G:=(F 0 _ (by decide) (by rw[fK l k 0 m (by decide)];rfl)).1;have Q:=(F 1 _ (by decide) (by rw[fK l k 1 m (by decide)];rfl)).1;simp only[bM]at G;have q1:(0:Int)<=(k:Int):=by omega
   have q2:(k:Int)<(l.length:Int):=by omega
   have⟨x,I⟩:=aD (l.getD k ());rw[<-I]at G Q;have T:=au I;clear I;obtain⟨x1,t⟩:=x;simp only at G Q;have u:=au (Z7 x1 t id q wr ((p.block q (az O.o)).trans O.o));clear F C p;by_cases c:t=id
   .have J:=W.o k m (by rw[<-T.o];exact c) E.o
    have d:(t==id)=true:=by simp[c]
    rw[d]at u;subst J;clear c d;go_wp2_with fail
    refine aN u.o ?_;intro y s;have K:=au (r.o.trans (s.mono r.o.size));clear s;go_wp2;go_ret;exact⟨rfl,K.o⟩
   .have d:(t==id)=false:=by simp[c]
    rw[d]at u;have L:=au c;clear c d;go_wp2_with fail
    refine aN u.o ?_;intro y s;have K:=au (r.o.trans (s.mono r.o.size));clear s;go_wp2;go_roundw
    case rel=>exact⟨k+1,rfl,by omega,λj n=>by
     by_cases e:j=k
     .rw[e,<-T.o];exact L.o
     .exact E.o j (by omega),K.o⟩
    case measure=>simp[intOf];omega
  .have J:=Y.o λj n=>E.o j (by omega)
   subst J;clear C p;go_wp2;go_ret;exact⟨rfl,r.o⟩
def TD{w:ae}{p:Nat}{b:Int}{g:Option Nat}{v:ah}{l:List iG}(h:i_ w p b g v l)(id:Int):
 aj prog 152 #[p,(id:Int)] w λe w'=>e=ax (qT (l.map Prod.snd) id:Int)/\ai w w w':=by
 have⟨u,d⟩:=aD (w.alloc (aB #[(id:Int)] 3 (0,0)));have⟨i,f,x⟩:=dt d;have c:=h.bH f;have⟨k,m,A,_⟩:=c.cell;have n:=au (WX c.s id w i);generalize qT (l.map Prod.snd) id=z at*;obtain⟨a,q,rfl,_⟩:=c.s.len;have⟨r,G⟩:=aK d f.aJ;clear d f i c h;go_in;go_upto_region 1 with fail
 rw[<-r.o];go_wp2_with fail
 refine aN n.o ?_;intro y j;have t:=au (G.o.trans (j.mono G.o.size));clear j k m;go_wp2;go_ret;exact⟨rfl,t.o⟩
def Seg.takeN{w:ae}{e sz n c:Nat}{g:Option Nat}{a:Option Addr}{cs d:List ah}(h:Seg w e sz g (av a n c) cs n)(i:Nat)(o:i<=n)(p:d=cs.take (i*sz)):Seg w e sz g (av a i c) d i:=by
 subst p;obtain⟨q,⟨rfl,f,rfl⟩|⟨b,k,m,l,rfl,f,r,x,s,t,u⟩⟩:=h
 .obtain rfl:i=0:=by omega
  simp only[bG,bK]at f;obtain⟨rfl,rfl⟩:=f;have:cs=[]:=List.length_eq_zero_iff.1 (by omega);subst this;exact⟨by simp,.inl ⟨rfl,rfl,rfl⟩⟩
 .simp only[bG,bK]at f
  obtain⟨rfl,rfl⟩:=f;have y:i*sz<=n*sz:=Nat.mul_le_mul_right _ o;refine⟨by rw[dw,q];omega,.inr ⟨b,k,c,l,rfl,rfl,r,by omega,s,t,λj v=> ?_⟩⟩;rw[u j (by omega),List.getElem?_take_of_lt v]
def Qm(l:List iG)(k:Nat):lK (l.take k)=(lK l).take (k*2):=by
 induction l generalizing k with
 |nil=>simp[lK]
 |cons a l b=>
  cases k with
  |zero=>simp[lK]
  |succ k=>
   have e:∀r,lK (a::r)=an ar a.1::an ar a.2::lK r:=λr=>by simp[lK]
   rw[List.take_succ_cons,e,e,b k,show(k+1)*2=k*2+1+1 by omega,List.take_succ_cons,List.take_succ_cons]
def FB{w:ae}{p:Nat}{f:Int}{g:Option Nat}{v:ah}{l:List iG}(h:i_ w p f g v l)(Y:0<l.length):
 aj prog 277 #[aL (some ⟨p,1,none⟩)] w λe w'=>(∃v,e=ax v)/\((∃v',i_ w' p f g v' (l.take (l.length-1)))/\aQ [p] w w'):=by
 obtain⟨a,k,rfl,A,O⟩:=h.s.len;unfold maxLen at O;have⟨b,q,cp,Z,P,hl,J⟩:=h.s.cell (by decide) (l.length-1) (by omega);simp only[bG,bK]at P;obtain⟨rfl,rfl⟩:=P;have K:=h.n;obtain⟨m,B⟩:∃m,l.length=m+1:=⟨l.length-1,by omega⟩
 have C:=(J 0 _ (by decide) (by rw[fK l _ 0 (by omega) (by decide)];rfl)).1;have H:=(J 1 _ (by decide) (by rw[fK l _ 1 (by omega) (by decide)];rfl)).1;have⟨_,L,Q,T⟩:=h.cell;have U:=T 1;have t:=h.s.takeN (l.length-1) (by omega) (Qm l (l.length-1));have E:=h.c;have M:=h.d;generalize l.getD (l.length-1) ()=x at*;obtain⟨V,W⟩:=x;simp only at C H;simp only[bM]at C;have⟨N,z⟩:=aD (l.take (l.length-1));have F:N.length=l.length-1:=by rw[z,dw];omega
 rw[<-z]at t⊢;have j:∀u,aQ ([]:List Nat) w u->(∃v',i_ (u.setCell ⟨p,1,none⟩ (av (some ⟨b,q,none⟩) (l.length-1) k)) p f g v' N)/\aQ [p] w (u.setCell ⟨p,1,none⟩ (av (some ⟨b,q,none⟩) (l.length-1) k)):=λu r=>by
  refine⟨⟨av (some ⟨b,q,none⟩) (l.length-1) k,?_,?_,M,by omega⟩,(r.mono (by simp)).setCell _ (by simp) _⟩
  .simpa using aE (i:=1) (r.at E (by simp)) (av (some ⟨b,q,none⟩) (l.length-1) k)
  .rw[F]
   exact(t.bH r (by simp)).bH ((aQ.refl [p] u).setCell _ (by simp) _) (λy hy e=>by
    simp only[cm]at e;subst e;exact M (by simp[hy]))
 rw[B]at C H L A O K j;simp only[Nat.add_sub_cancel]at C H j;have HR:=au j;clear h t E M j J T;have q0:(0:Int)<=(m:Int):=by omega
 have q1:(m:Int)<(m:Int)+1:=by omega
 clear B Y Z z F;have⟨u,r⟩:=aD ((w.alloc (aB #[V,W] 317 (0,0))).drew);have I:aQ ([]:List Nat) w u:=by rw[r];exact((aQ.refl _ _).alloc _).drew
 have X:u.heap[w.heap.size]? =some (aB #[V,W] 317 (0,0)):=by rw[r];exact a_ _ _
 have⟨d0,d1⟩:=dk X;have c1u:=(I.aJ.cell (p:=⟨p,1,none⟩) Q).trans L;have f1u:=(I.aJ.frozen (p:=⟨p,1,none⟩) Q).trans U;have G:=HR.o u I;have HF:=au (show(∃v',i_ (u.setCell ⟨p,1,none⟩ (av (some ⟨b,q,none⟩) m k)).drew p f g v' N)/\aQ [p] w (u.setCell ⟨p,1,none⟩ (av (some ⟨b,q,none⟩) m k)).drew by
  obtain⟨⟨v',h1⟩,h2⟩:=G;exact⟨⟨v',h1.bH (aQ.refl _ _).drew⟩,h2.drew⟩)
 have HU:=au r;clear r I X G;go_in;go_wp2_with fail
 go_region
 rw[<-HU.o];clear C H L U;generalize w.heap.size=bx at*;go_wp2_with fail
 go_region
 go_wp2_with fail
 go_ret;exact⟨⟨_,rfl⟩,HF.o⟩
def dm{P:Program}{w:ae}{c:Array Oper}{o:Oper}{a:Act}{K:Act->ae->Prop}{Q:Exit->Act->ae->Prop}{E:Prop}(m:o.guard=none)(f:FuncId){fn:Func}(n:P.funcs[f]? =some fn)(b:(fn.name== "runtime.NumGoroutine")=false)(l:fn.body.isNone=false){xs:Array Operand}{ts:Array TypeId}
 (p:o.op=.call {callee:=.value (.func f),args:=xs,argTypes:=ts}) (g:Array ah) (q:xs.map a.eval=g) {R:ak->ae->Prop}
 (r:aj P f g w R) (s:∀e d,R e d->∃h,e=ax h/\K (a.put o.dst h) d):if Region.wanted o (yielded c a.tmps)=true then Oper.wp P o a w K Q else E:=by
 have t:Region.wanted o (yielded c a.tmps)=true:=by simp[Region.wanted,m]
 rw[aI t];unfold Oper.wp;have u:(execOp a.eval o).run P w=.ok (.enter f g) w:=by
  have i:a.eval (.func f)=.func (.func f) #[] #[]:=rfl;have j:fn.name≠ "runtime.NumGoroutine" :=by simpa using b
  have k:fn.body≠none:=by intro e;rw[e]at l;cases l
  simp[execOp,p,resolve,invoke,q,i,Deferred.ofValue,callFunc,run_program,n,j,k]
 rw[u,Oper.upon_enter];refine r.mono λe d v=> ?_
 obtain⟨h,rfl,x⟩:=s e d v;exact x
def dV{fn:Func}{c:Tmp}{d:TypeId}{P:Program}{w:ae}{g:Nat}{v:ah}{a:Array ah}(h:fn.results= #[.cell c d])(e:a.getD c undef=aL (some g))
 (b:(loadVar d ⟨g,0,none⟩).run P w=.ok v w):(results fn a).run P w=.ok v w:=by
 simp[results,h,asAddr,Result.andThen];simp at e;rw[e];simp[b]
def WY(z:Int):Int:=if(bits .and .u32 z 1==1)=true then bits .xor .u32 (z/2) 3988292384 else z/2
def om(z:Int):Nat->Int
 |0=>z
 |k+1=>WY (om z k)
def D6(c b:Int):Int:=om (bits .xor .u32 c (b%4294967296)) 8
def ado(c b:Int)(w:ae):aj prog 171 #[.int .u32 c,.int .u8 b] w λe w'=>e=ax (.int .u32 (D6 c b))/\w=w':=by
 unfold D6;have⟨f,a⟩:=aK (show∀k,om (bits .xor .u32 c (b%4294967296)) (k+1)=if(bits .and .u32 (om (bits .xor .u32 c (b%4294967296)) k) 1==1)=true then bits .xor .u32 (om (bits .xor .u32 c (b%4294967296)) k/2) 3988292384 else om (bits .xor .u32 c (b%4294967296)) k/2 fromλk=>rfl) (show om (bits .xor .u32 c (b%4294967296)) 0=bits .xor .u32 c (b%4294967296)from rfl);generalize om (bits .xor .u32 c (b%4294967296))=F at*;go_in;go_wp2
 go_loop [0,10] (λc i=>∃k:Nat,i=an ar k/\k<=8/\c=.int .u32 (F k)) (λ_ i=>8-(intOf i).toNat)
 case atStart=>exact⟨0,rfl,by omega,by rw[a.o]⟩
 case round=>
  obtain⟨k,rfl,h,rfl⟩:=hrel;by_cases g:k<8
  .cases hb:(bits BinOp.and IntKind.u32 (F k) 1==1)
   .have d:=au (show F (k+1)=F k/2 by rw[f.o,hb];rfl)
    go_wp2
    go_round
    case rel=>exact⟨k+1,rfl,by omega,by rw[d.o]⟩
    case measure=>simp[intOf];omega
   .have d:=au (show F (k+1)=bits .xor .u32 (F k/2) 3988292384 by rw[f.o,hb];rfl)
    go_wp2
    go_round
    case rel=>exact⟨k+1,rfl,by omega,by rw[d.o]⟩
    case measure=>simp[intOf];omega
  .obtain rfl:k=8:=by omega
   go_wp2;go_ret;exact⟨rfl,rfl⟩
def TE(c:Int):Int:=bits .xor .u32 IntKind.u32.max c
def l_(bs:List Int):Int:=TE (bs.foldl D6 (TE 0))
theorem Ai{a b:Type}[Inhabited a](f:b->a->b)(z:b)(L:List a)(k:Nat)(c:k<L.length):(L.take (k+1)).foldl f z=f ((L.take k).foldl f z) (L.getD k ()):=by
 rw[List.take_add_one,List.foldl_append];simp[jZ c,aU]
def ahS(v:ah)(bs:List Int)(w:ae)(h:dc w .u8 v bs):aj prog 151 #[.int .u32 0,v] w λe w'=>e=ax (.int .u32 (l_ bs))/\w=w':=by
 have m:=au h;obtain⟨a,n,rfl,p,q,_⟩:=h;unfold maxLen at p;have⟨F,hF⟩:= @aD (Nat->Int) (λk=>(bs.take k).foldl D6 (TE 0));have⟨f,g⟩:=aK (show F 0=bits .xor .u32 IntKind.u32.max 0 by rw[hF];rfl) (show∀k,k<bs.length->F (k+1)=D6 (F k) (bs.getD k 0)fromλk l=>by rw[hF];exact Ai D6 (TE 0) bs k l);have⟨z,j⟩:=aD (l_ bs);have r:=au (show z=bits .xor .u32 IntKind.u32.max (F bs.length)by rw[j,hF];unfold l_ TE;simp only[fR]);rw[<-j];clear hF j;go_in;go_wp2
 go_loop [0,11] (λc i=>∃k:Nat,i=an ar k/\k<=bs.length/\c=.int .u32 (F k)) (λ_ i=>bs.length-(intOf i).toNat)
 case atStart=>exact⟨0,rfl,bz _,by rw[f.o]⟩
 case round=>
  obtain⟨k,rfl,l,rfl⟩:=hrel;by_cases d:k<bs.length
  .obtain⟨b,s,rfl,t,u⟩:=m.o.slot k d
   have y:=au (g.o k d);generalize bs.getD k 0=x at*;have A:=au (ado (F k) x w);have B:(0:Int)<=(k:Int):=by omega
   have C:(k:Int)<(bs.length:Int):=by omega
   go_wp2_with (go_at_call 171;refine aH A.o ?_)
   go_round
   case rel=>exact⟨k+1,rfl,by omega,by rw[y.o]⟩
   case measure=>simp[intOf];omega
  .obtain rfl:k=bs.length:=by omega
   go_wp2;go_ret;exact⟨kH (by rw[r.o]),rfl⟩
def WZ(v:ah)(bs:List Int)(w:ae)(h:dc w .u8 v bs):aj prog 123 #[v] w λe w'=>e=ax (.int .u32 (l_ bs))/\w=w':=by
 have H:=au (ahS v bs w h);obtain⟨a,b,rfl,d,c,_⟩:=h;go_in;go_wp2_with (go_at_call 151;refine aH H.o ?_);go_ret;exact⟨rfl,rfl⟩
def dI(B:Nat)(w:ae)(v:ah)(bs:List Int):Prop:=Own B 5 1 w v (lJ bs) bs.length
def dI.push{B:Nat}{w:ae}{v:ah}{xs:List Int}(h:dI B w v xs)(x:Int)(b:xs.length<=1000000)(d:B<=w):
 ∃a c w',(∀e,(Builtin.append_ #[188,188] e #[v,av (some ⟨w,0,none⟩) 1 1]).run prog (w.alloc (aB #[.int .u8 x] 5 (0,0)))=.ok (av a (xs.length+1) c) w')/\dI B w' (av a (xs.length+1) c) (xs++ [x])/\ai B w w':=by
 have⟨a,c,w',f,g,i⟩:=Own.push h 188 underlying188 infoByte rfl (by decide) [.int .u8 x] rfl (by simp[Value.oneCell']) b (by decide) d;refine⟨a,c,w',f,?_,i⟩;unfold dI lJ;rw[gF,bF];exact g
def dI.reads{B:Nat}{w:ae}{v:ah}{bs:List Int}(h:dI B w v bs):dc w .u8 v bs:=by
 have⟨g,a,_⟩:=Own.Cs h;exact gC a
def dig(n:Int)(sz k:Nat):Int:=n/2^(8*(sz-1-k))%256
def dA(n:Int)(sz:Nat):List Int:=(List.range sz).map (dig n sz)
def CE(v:ah)(bs:List Int)(n:Int)(sz:Nat)(w:ae)(h:dc w .u8 v bs)(U:bs.length<=100000)(V:1<=sz)(W:sz<=8)(X:0<=n)(Y:n<9223372036854775808):
 aj prog 122 #[v,(n:Int),(sz:Int)] w λe w'=>∃v',e=ax v'/\dI w w' v' (bs++dA n sz)/\ai w w w':=by
 have I:=au (ON v bs w h (by omega));obtain⟨a,J,rfl,K,L,_⟩:=h;unfold maxLen at K;have⟨F,hF⟩:= @aD (Nat->List Int) (λk=>bs++(dA n sz).take k);have⟨R,r⟩:=aD (bs++dA n sz);have⟨s,t⟩:=aK (show F 0=bs by rw[hF];simp) (show F sz=R by rw[hF,r];simp only;rw[jY (by simp[dA])]);have u:=au (show∀k,k<sz->F (k+1)=F k++ [n/2^(8*(sz-1-k))%256]fromλk E=>by
  rw[hF];simp only;rw[List.take_add_one,<-h_];congr 1;simp[dA,dig,E])
 have z:=au (show∀k,(F k).length<=100008 fromλk=>by rw[hF];simp[dA];omega);rw[<-r];clear hF r;have G:min (sz:Int) 8=sz:=by omega
 go_in;go_wp2_with fail
 refine I.m ?_;rintro e x ⟨v',rfl,A,H⟩;have Z:(1:Int)<=(sz:Int):=by omega
 have q2:(sz:Int)<=8:=by omega
 have⟨M,N⟩:=aK H (show dI w x v' (F 0)by rw[s.o];exact A);obtain⟨a',c',rfl,_⟩:=Own.len A;clear A H;go_wp2_with fail
 go_loopw [7,15] (λv i wr=>∃k:Nat,i=an ar k/\k<=sz/\dI w wr v (F k)/\ai w w wr) (λ_ i _=>sz-(intOf i).toNat)
 case atStart=>exact⟨0,rfl,bz _,N.o,M.o⟩
 case round=>
  obtain⟨k,rfl,E,j,b⟩:=hrel;obtain⟨O,P,rfl,Q,B⟩:=j.len;unfold maxLen at B;have T:=z.o k;by_cases C:k<sz
  .have q3:(k:Int)<(sz:Int):=by omega
   have⟨a3,c3,y,c,d,l⟩:=dI.push j (n/2^(8*(sz-1-k))%256) (by omega) b.size;rw[<-u.o k C]at d;have⟨p,f,g⟩:=aX c d (b.trans l);clear j b c d l;go_wp2_with (refine cE (by rfl) (.tmp 18) (.tmp 29) 188 (by rfl) _ _ _ y (by rfl) (by rfl) (p.o _) ?_);go_roundw
   case rel=>exact⟨k+1,rfl,by omega,f.o,g.o⟩
   case measure=>simp[intOf];omega
  .have q:F k=R:=by
    obtain rfl:k=sz:=by omega
    exact t.o
   have⟨f,g⟩:=aK (show dI w wr (av O (F k).length P) R by rw[<-q];exact j) b;clear j b q;go_wp2;go_ret;exact⟨_,rfl,f.o,g.o⟩
def cQ(bs:List Int):Prop:=∀x∈bs,0<=x/\x<256
def qG(z:Int)(xs:List Int):Int:=xs.foldl (λz x=>z*256+x) z
def oD(bs:List Int)(p sz:Nat):Int:=qG 0 ((bs.drop p).take sz)
def W1(z x:Int)(e:0<=z)(f:z<72057594037927936)(c:0<=x)(g:x<256):bits .or .u64 (z*256) x=z*256+x:=by
 rw[Go.u64_or _ _ (by omega) (by omega) c (by omega)];obtain⟨a,rfl⟩:∃a:Nat,z=a:=⟨z.toNat,by omega⟩
 obtain⟨b,rfl⟩:∃b:Nat,x=b:=⟨x.toNat,by omega⟩
 have d:((a:Int)*256).toNat=2^8*a:=by omega
 rw[d,gE,<-Nat.two_pow_add_eq_or_of_lt (by omega:b<2^8) a];omega
def MI(xs:List Int)(g:xs.length<=4)(f:cQ xs):0<=qG 0 xs/\qG 0 xs<4294967296:=by
 match xs,g with
 | [],_=>exact⟨by decide,by decide⟩
 | [a],_=>
  have:=f a (by simp);simp only[qG,List.foldl_cons,List.foldl_nil];omega
 | [a,b],_=>
  have:=f a (by simp);have:=f b (by simp);simp only[qG,List.foldl_cons,List.foldl_nil];omega
 | [a,b,c],_=>
  have:=f a (by simp);have:=f b (by simp);have:=f c (by simp);simp only[qG,List.foldl_cons,List.foldl_nil];omega
 | [a,b,c,d],_=>
  have:=f a (by simp);have:=f b (by simp);have:=f c (by simp);have:=f d (by simp);simp only[qG,List.foldl_cons,List.foldl_nil];omega
 |a::b::c::d::e::l,h=>simp at h
def TF(bs:List Int)(p k:Nat)(h:p+k<bs.length):qG 0 ((bs.drop p).take (k+1))=qG 0 ((bs.drop p).take k)*256+bs.getD (p+k) 0:=by
 unfold qG;rw[Ai _ _ _ k (by rw[j8];omega),aU,List.getElem?_drop,aU];rfl
def Qn(v:ah)(bs:List Int)(p sz:Nat)(w:ae)(h:dc w .u8 v bs)(f:cQ bs)(Q:1<=sz)(T:sz<=4)(U:p<=1000000000):
 aj prog 128 #[v,(p:Int),(sz:Int)] w λe w'=>e=ax (if p+sz<=bs.length then aM #[an ar (oD bs p sz),aw true]else aM #[an ar 0,aw false])/\w=w':=by
 have B:=au h;obtain⟨a,C,rfl,E,G,_⟩:=h;unfold maxLen at E;have V:¬(sz:Int)<1:=by omega
 have W:¬(8:Int)<(sz:Int):=by omega
 have X:¬(p:Int)<0:=by omega
 by_cases g:p+sz<=bs.length
 .rw[aI g]
  have Y:¬(bs.length:Int)<(p:Int):=by omega
  have H:¬(bs.length:Int)-(p:Int)<(sz:Int):=by omega
  have⟨F,hF⟩:= @aD (Nat->Int) (λk=>qG 0 ((bs.drop p).take k));have⟨R,n⟩:=aD (oD bs p sz);have⟨q,r⟩:=aK (show F 0=0 by rw[hF];rfl) (show F sz=R by rw[hF,n];rfl);have d:cQ (bs.drop p):=λx j=>f x (nu j)
  have s:=au (show∀k,k<=4->0<=F k/\F k<4294967296 fromλk t=>by
   rw[hF];exact MI ((bs.drop p).take k) (by rw[dw];omega) (λx j=>d x (List.mem_of_mem_take j)))
  have⟨u,y⟩:=aK (show∀k,p+k<bs.length->F (k+1)=F k*256+bs.getD (p+k) 0 fromλk t=>by rw[hF];exact TF bs p k t) f;rw[<-n];clear hF n d f;go_in;go_wp2
  go_loop [8,35] (λc i=>∃k:Nat,i=an ar k/\k<=sz/\c=.int .u64 (F k)) (λ_ i=>sz-(intOf i).toNat)
  case atStart=>exact⟨0,rfl,bz _,by rw[q.o]⟩
  case round=>
   obtain⟨k,rfl,t,rfl⟩:=hrel;have⟨I,Z⟩:=s.o k (by omega);by_cases J:k<sz
   .obtain⟨b,K,rfl,L,M⟩:=B.o.slot (p+k) (by omega)
    have j:=y.o (bs.getD (p+k) 0) (by simp[aU,show p+k<bs.length by omega]);have l:=u.o k (by omega);generalize bs.getD (p+k) 0=x at*;obtain⟨N,O⟩:=j;have z:=au (l.trans (W1 (F k) x I (by omega) N O).symm);have q1:(0:Int)<=(p:Int)+(k:Int):=by omega
    have q2:(p:Int)+(k:Int)<(bs.length:Int):=by omega
    have q3:(k:Int)<(sz:Int):=by omega
    clear l;go_wp2
    go_round
    case rel=>exact⟨k+1,by simp,by omega,by rw[z.o]⟩
    case measure=>simp[intOf];omega
   .have m:F k=R:=by
     obtain rfl:k=sz:=by omega
     exact r.o
    have A:=au m;clear m;go_wp2;go_ret2;exact⟨by rw[A.o];rfl,rfl⟩
 .rw[aC g]
  by_cases P:(bs.length:Int)<(p:Int)
  .go_in
   go_wp2;go_ret2;exact⟨rfl,rfl⟩
  .have H:(bs.length:Int)-(p:Int)<(sz:Int):=by omega
   go_in;go_wp2;go_ret2;exact⟨rfl,rfl⟩
def Jp{P:Program}{w:ae}{b:Array Oper}{rest:List Oper}{o:Oper}{a:Act}{Q:Exit->Act->ae->Prop}(g:o.guard=none)(s x:Operand)(t u:TypeId)
 (i:o.op=.call {callee:=.builtin .append,args:= #[s,x],argTypes:= #[t,u]}) (v d e:ah) (f:ae) (hs:a.eval s=v) (j:a.eval x=d)
 (c:(Builtin.append_ #[t,u] o.type #[v,d]).run P w=.ok e f) (h:wpList P b Q rest (a.put o.dst e) f):wpList P b Q (o::rest) a w:=
 wpList_plain g λ_ k=>by
  unfold Oper.wp;simp[execOp,i,resolve,invoke,builtin,hs,j,c,Result.andThen];exact k _ _ h
def qU(s:ByteArray):List Int:=s.data.toList.map λb=>(b.toNat:Int)
def oX(s:ByteArray):(qU s).length=s.size:=by simp[qU]
def dI.str{B:Nat}{w:ae}{v:ah}{xs:List Int}(h:dI B w v xs)(s:ByteArray)(r:xs.length+s.size<=1000000)(j:B<=w):
 ∃a c w',(∀d,(Builtin.append_ #[188,9] d #[v,aA s]).run prog w=.ok (av a (xs.length+s.size) c) w')/\dI B w' (av a (xs.length+s.size) c) (xs++qU s)/\ai B w w':=by
 have⟨l,m,e,f,g⟩:=info_parts infoByte;have i:=λd=>
  Lib.run_append_own_string (P:=prog) w B 188 9 d 5 l underlying188 underlying9 m e f g v xs.length (lJ xs) h s (by unfold maxLen;omega) (by omega) j
 have⟨n,w',o,k,p,_⟩:=i 0;obtain⟨a,c,rfl,_⟩:=Own.len (show Own B 5 1 w' n (lJ xs++Lib.strCells s) (xs.length+s.size)from k);have b:lJ xs++Lib.strCells s=lJ (xs++qU s):=by simp[lJ,qU,Lib.strCells]
 refine⟨a,c,w',λ_=>o,?_,Below.grow p (λx q=>(World.ownsRow.lt h x q).1) j⟩;unfold dI;rw[bF,oX,<-b];exact k
def Jq(v:ah)(bs:List Int)(s:ByteArray)(w:ae)(h:dc w .u8 v bs)(k:bs.length<=100000)(z:s.size<=60000):
 aj prog 118 #[v,aA s] w λe w'=>∃v',e=ax v'/\dI w w' v' (bs++dA s.size 2++qU s)/\ai w w w':=by
 have l:=au (CE v bs s.size 2 w h k (by decide) (by decide) (by omega) (by omega));obtain⟨a,n,rfl,p,q,_⟩:=h;unfold maxLen at p;have i:min (s.size:Int) 65535=s.size:=by omega
 have r:(bs++dA s.size 2).length<=100002:=by simp[dA];omega
 generalize bs++dA s.size 2=X at*;go_in;go_wp2_with fail
 refine l.m ?_;rintro e x ⟨v',rfl,g,c⟩;obtain⟨A,B,rfl,_⟩:=Own.len g;have⟨C,E,y,b,j,d⟩:=dI.str g s (by omega) c.size;have⟨f,t,u⟩:=aX b j (c.trans d);clear g c b j d;go_wp2_with (refine Jp (by rfl) (.tmp 13) (.tmp 14) 188 9 (by rfl) _ _ _ y (by rfl) (by rfl) (f.o _) ?_);go_ret;exact⟨_,rfl,t.o,u.o⟩
def wU(bs:List Int)(p:Nat):Option (ByteArray×Nat):=
 if p+2<=bs.length/\p+2+(oD bs p 2).toNat<=bs.length then some (Go.strOfNums ((bs.drop (p+2)).take (oD bs p 2).toNat),p+2+(oD bs p 2).toNat)else none
def adp(v:ah)(bs:List Int)(p:Nat)(w:ae)(h:dc w .u8 v bs)(g:cQ bs)(O:p<=1000000):
 aj prog 176 #[v,an ar p] w λe w'=>e=ax (match wU bs p with|some (s,q)=>aM #[aA s,an ar q,aw true]|none=>aM #[aA ByteArray.empty,an ar 0,aw false])/\w=w':=by
 have⟨k,C⟩:=aK (Qn v bs p 2 w h g (by decide) (by decide) (by omega)) h;obtain⟨a,j,rfl,I,l,_⟩:=h;have E:=l.1;unfold maxLen at I;have y:=MI ((bs.drop p).take 2) (by rw[dw];omega) (λx J=>g x (nu (List.mem_of_mem_take J)));unfold wU;have r:oD bs p 2=qG 0 ((bs.drop p).take 2):=rfl;rw[<-r]at y;generalize oD bs p 2=n at*;clear r g l;by_cases t:p+2<=bs.length
 .rw[aI t]at k
  obtain⟨m,rfl⟩:∃m:Nat,n=m:=⟨n.toNat,by omega⟩
  rw[gE];by_cases F:p+2+m<=bs.length
  .rw[aI ⟨t,F⟩]
   obtain⟨b,f,rfl,K,_⟩:=C.o.slot 0 (by omega);have d:∀(o:Nat) (c:Nat),(m=0∨o=f+(p+2))->(convert 188 9 (av (some ⟨b,o,none⟩) m c)).run prog w=.ok (aA (Go.strOfNums ((bs.drop (p+2)).take m))) w:=λo c u=>
    Go.run_convert_bytes_arg w 188 5 underlying188 underlying5 b o m c _ (by rw[dw,j8];omega) (λi L=>by
     have⟨P,G,e,_,M⟩:=C.o.slot (p+2+i) (by omega);simp only[bA,dr,et]at e;obtain⟨rfl,rfl⟩:=e;obtain u|u:=u
     .omega
     .subst u
      rw[show f+(p+2)+i=f+(p+2+i)by omega,M];congr 2;simp[aU,List.getElem?_take,List.getElem?_drop,L]) 9 underlying9
   generalize Go.strOfNums ((bs.drop (p+2)).take m)=S at*;have N:¬(bs.length:Int)-(p:Int)-2<(m:Int):=by omega
   by_cases z:j=p+2
   .subst z
    have A:m=0:=by omega
    subst A;have B:=d f 0 (.inl rfl);clear d;go_in;go_wp2_with (go_at_call 128;refine aH k.o ?_);go_ret3;exact⟨rfl,rfl⟩
   .have B:=d (f+(p+1+1)) (j-(p+2)) (.inr rfl)
    have H:¬j-(p+2)=0:=by omega
    clear d;go_in;go_wp2_with (go_at_call 128;refine aH k.o ?_);go_ret3;exact⟨rfl,rfl⟩
  .rw[aC (λe=>F e.2)]
   have N:(bs.length:Int)-(p:Int)-2<(m:Int):=by omega
   go_in;go_wp2_with (go_at_call 128;refine aH k.o ?_);go_ret3;exact⟨rfl,rfl⟩
 .rw[aC (λe=>t e.1)]
  rw[aC t]at k;go_in;go_wp2_with (go_at_call 128;refine aH k.o ?_);go_ret3;exact⟨rfl,rfl⟩
def OR(n:Int):Bool:=decide (0<=n)&&decide (n<=2147483647)
def me(xs:List Int):Bool:=xs.all OR
def Z8(v:ah)(xs:List Int)(w:ae)(h:aT dX 1 w v xs):aj prog 147 #[v] w λe w'=>e=ax (aw (me xs))/\w=w':=by
 have A:=au h;obtain⟨a,B,rfl,C,I,_⟩:=h;unfold maxLen at C;have⟨z,l⟩:=aD (me xs);have r:=au (show z=true↔∀k,k<xs.length->OR (xs.getD k ())=true by rw[l];exact oS OR xs);rw[<-l];clear l;go_in;go_wp2
 go_loop [7] (λi=>∃k:Nat,i=an ar k/\k<=xs.length/\∀j,j<k->OR (xs.getD j ())=true) (λi=>xs.length-(intOf i).toNat)
 case atStart=>exact⟨0,rfl,bz _,λj s=>by omega⟩
 case round=>
  obtain⟨k,rfl,J,t⟩:=hrel;have u:=au t;clear t;by_cases c:k<xs.length
  .obtain⟨b,E,rfl,F,d⟩:=A.o.slot k c
   have f:=d 0 _ rfl;simp only[bM,Nat.mul_one]at f;have K:(0:Int)<=(k:Int):=by omega
   have L:(k:Int)<(xs.length:Int):=by omega
   have⟨y,m⟩:=aD (xs.getD k ());rw[<-m]at f;have x:=au m;clear d m;by_cases g:0<=y/\y<=2147483647
   .obtain⟨g,n⟩:=g
    have G:¬y<0:=by omega
    have H:¬2147483647<y:=by omega
    go_wp2
    go_round
    case rel=>exact⟨k+1,rfl,by omega,λj s=>by
     by_cases e:j=k
     .rw[e,<-x.o];simp[OR,g,n]
     .exact u.o j (by omega)⟩
    case measure=>simp[intOf];omega
   .have p:z=false:=by
     cases e:z
     .rfl
     .have:=r.o.1 e k c
      rw[<-x.o]at this;simp[OR]at this;omega
    subst p;obtain n|⟨n,M⟩:=(by omega:y<0∨(¬y<0/\2147483647<y))
    all_goals
     clear g;go_wp2;go_ret;exact⟨rfl,rfl⟩
  .have q:=r.o.2 λj s=>u.o j (by omega)
   subst q;go_wp2;go_ret;exact⟨rfl,rfl⟩
def nF(d:Int)(s:ByteArray):Bool:=decide (0<=d)&&decide (d<=4)&&mQ s.data.toList
def Zd(d:Int)(s:ByteArray)(w:ae)(i:s.size<=maxLen):aj prog 170 #[aG #[(d:Int),aA s]] w λe w'=>e=ax (aw (nF d s))/\ai w w w':=by
 unfold nF;have⟨u,b⟩:=aD (w.alloc (aB #[(d:Int),aA s] 83 (0,0)));have⟨a,f,n⟩:=dt b;have⟨j,k⟩:=dk a;have l:=au (SX s u i);generalize mQ s.data.toList=v at*;have⟨c,G⟩:=aK b f.aJ;clear b f a;obtain a|⟨a,g⟩|⟨a,g⟩:=(by omega:d<0∨(¬d<0/\4<d)∨(0<=d/\d<=4))
 .have E:=au (decide_eq_false (show¬0<=d by omega))
  go_in;go_upto_region 1 with fail
  rw[<-c.o];go_wp2;go_ret;exact⟨cA (by rw[E.o];simp),G.o⟩
 .have e:0<=d:=by omega
  have E:=au (decide_eq_false (show¬d<=4 by omega));go_in;go_upto_region 1 with fail
  rw[<-c.o];go_wp2;go_ret;exact⟨cA (by rw[E.o];simp),G.o⟩
 .go_in
  go_upto_region 1 with fail
  rw[<-c.o];go_wp2_with fail
  refine aN l.o ?_;intro x h;have m:=au (G.o.trans (h.mono G.o.size));clear h j k;go_wp2;go_ret;exact⟨cA (by simp[a,g]),m.o⟩
def jb(n:Int):Bool:=decide (1<=n)&&decide (n<=5)
def kh(s h:Int):Bool:=decide (0<=s)&&(decide (s<4)&&(decide (0<=h)&&decide (h<6)))
def Aj(n:Int)(w:ae):aj prog 146 #[(n:Int)] w λe w'=>e=ax (aw (jb n))/\w=w':=by
 unfold jb;by_cases a:1<=n
 all_goals
  go_in;go_wp2;go_ret;exact⟨cA (by simp[a]<;>omega),rfl⟩
def FC(s h:Int)(w:ae):aj prog 150 #[s,h] w λe w'=>e=ax (aw (kh s h))/\w=w':=by
 unfold kh;by_cases a:0<=s
 rotate_left
 all_goals by_cases b:s<4
 all_goals by_cases c:0<=h
 all_goals
  go_in;go_wp2;go_ret;exact⟨cA (by simp[*]<;>omega),rfl⟩
structure lr where
 slot:Int
 query:Int
 aR:Int
 seq:Int
 worker:Int
 aW:Int
 items:List aY
 fin:Bool
instance:Inhabited lr:=⟨⟨0,0,0,0,0,0,[],false⟩⟩
inductive cd where
 |eu (worker life:Int)
 |grant (worker life aW:Int)
 |ask (a:cf)
 |dj (r:lr)
 |stop (slot query:Int)
def lr.cells(r:lr)(iv:ah):List ah:=[an ar r.slot,an ar r.query,an ar r.aR,an ar r.seq,an ar r.worker,an ar r.aW,iv,aw r.fin]
def cd.val(iv:ah):cd->ah
 | .eu a b=>.iface 235 (aG #[a,b])
 | .grant a b c=>.iface 238 (aG #[a,b,c])
 | .ask a=>.iface 240 (aG #[a.slot,a.query,a.aR,a.seq,a.aW,aA a.text,a.k,a.batch,aw a.first,a.jk,aA a.word])
 | .dj r=>.iface 246 (aG #[r.slot,r.query,r.aR,r.seq,r.worker,r.aW,iv,aw r.fin])
 | .stop a b=>.iface 248 (aG #[a,b])
def Ak(v:ah)(w:ae):(Instr.typeAssert (.iface 235 v) 20 235 true).run prog w=.ok (aM #[v,aw true]) w:=by kernel_rfl
def Al(v:ah)(w:ae):(Instr.typeAssert (.iface 235 v) 20 238 true).run prog w=.ok (aM #[aG #[an ar 0,an ar 0,an ar 0],aw false]) w:=by kernel_rfl
def FD(v:ah)(w:ae):(Instr.typeAssert (.iface 235 v) 20 240 true).run prog w=.ok (aM #[aG #[an ar 0,an ar 0,an ar 0,an ar 0,an ar 0,aA ByteArray.empty,an ar 0,an ar 0,aw false,an ar 0,aA ByteArray.empty],aw false]) w:=by kernel_rfl
def Am(v:ah)(w:ae):(Instr.typeAssert (.iface 235 v) 20 246 true).run prog w=.ok (aM #[aG #[an ar 0,an ar 0,an ar 0,an ar 0,an ar 0,an ar 0,(),aw false],aw false]) w:=by kernel_rfl
def CF(v:ah)(w:ae):(Instr.typeAssert (.iface 235 v) 20 248 true).run prog w=.ok (aM #[aG #[an ar 0,an ar 0],aw false]) w:=by kernel_rfl
def An(v:ah)(w:ae):(Instr.typeAssert (.iface 238 v) 20 235 true).run prog w=.ok (aM #[aG #[an ar 0,an ar 0],aw false]) w:=by kernel_rfl
def Ao(v:ah)(w:ae):(Instr.typeAssert (.iface 238 v) 20 238 true).run prog w=.ok (aM #[v,aw true]) w:=by kernel_rfl
def FE(v:ah)(w:ae):(Instr.typeAssert (.iface 238 v) 20 240 true).run prog w=.ok (aM #[aG #[an ar 0,an ar 0,an ar 0,an ar 0,an ar 0,aA ByteArray.empty,an ar 0,an ar 0,aw false,an ar 0,aA ByteArray.empty],aw false]) w:=by kernel_rfl
def Ap(v:ah)(w:ae):(Instr.typeAssert (.iface 238 v) 20 246 true).run prog w=.ok (aM #[aG #[an ar 0,an ar 0,an ar 0,an ar 0,an ar 0,an ar 0,(),aw false],aw false]) w:=by kernel_rfl
def CG(v:ah)(w:ae):(Instr.typeAssert (.iface 238 v) 20 248 true).run prog w=.ok (aM #[aG #[an ar 0,an ar 0],aw false]) w:=by kernel_rfl
def FF(v:ah)(w:ae):(Instr.typeAssert (.iface 240 v) 20 235 true).run prog w=.ok (aM #[aG #[an ar 0,an ar 0],aw false]) w:=by kernel_rfl
def FG(v:ah)(w:ae):(Instr.typeAssert (.iface 240 v) 20 238 true).run prog w=.ok (aM #[aG #[an ar 0,an ar 0,an ar 0],aw false]) w:=by kernel_rfl
def MJ(v:ah)(w:ae):(Instr.typeAssert (.iface 240 v) 20 240 true).run prog w=.ok (aM #[v,aw true]) w:=by kernel_rfl
def FH(v:ah)(w:ae):(Instr.typeAssert (.iface 240 v) 20 246 true).run prog w=.ok (aM #[aG #[an ar 0,an ar 0,an ar 0,an ar 0,an ar 0,an ar 0,(),aw false],aw false]) w:=by kernel_rfl
def Jr(v:ah)(w:ae):(Instr.typeAssert (.iface 240 v) 20 248 true).run prog w=.ok (aM #[aG #[an ar 0,an ar 0],aw false]) w:=by kernel_rfl
def Aq(v:ah)(w:ae):(Instr.typeAssert (.iface 246 v) 20 235 true).run prog w=.ok (aM #[aG #[an ar 0,an ar 0],aw false]) w:=by kernel_rfl
def Ar(v:ah)(w:ae):(Instr.typeAssert (.iface 246 v) 20 238 true).run prog w=.ok (aM #[aG #[an ar 0,an ar 0,an ar 0],aw false]) w:=by kernel_rfl
def FI(v:ah)(w:ae):(Instr.typeAssert (.iface 246 v) 20 240 true).run prog w=.ok (aM #[aG #[an ar 0,an ar 0,an ar 0,an ar 0,an ar 0,aA ByteArray.empty,an ar 0,an ar 0,aw false,an ar 0,aA ByteArray.empty],aw false]) w:=by kernel_rfl
def As(v:ah)(w:ae):(Instr.typeAssert (.iface 246 v) 20 246 true).run prog w=.ok (aM #[v,aw true]) w:=by kernel_rfl
def CI(v:ah)(w:ae):(Instr.typeAssert (.iface 246 v) 20 248 true).run prog w=.ok (aM #[aG #[an ar 0,an ar 0],aw false]) w:=by kernel_rfl
def CJ(v:ah)(w:ae):(Instr.typeAssert (.iface 248 v) 20 235 true).run prog w=.ok (aM #[aG #[an ar 0,an ar 0],aw false]) w:=by kernel_rfl
def CK(v:ah)(w:ae):(Instr.typeAssert (.iface 248 v) 20 238 true).run prog w=.ok (aM #[aG #[an ar 0,an ar 0,an ar 0],aw false]) w:=by kernel_rfl
def Js(v:ah)(w:ae):(Instr.typeAssert (.iface 248 v) 20 240 true).run prog w=.ok (aM #[aG #[an ar 0,an ar 0,an ar 0,an ar 0,an ar 0,aA ByteArray.empty,an ar 0,an ar 0,aw false,an ar 0,aA ByteArray.empty],aw false]) w:=by kernel_rfl
def CL(v:ah)(w:ae):(Instr.typeAssert (.iface 248 v) 20 246 true).run prog w=.ok (aM #[aG #[an ar 0,an ar 0,an ar 0,an ar 0,an ar 0,an ar 0,(),aw false],aw false]) w:=by kernel_rfl
def FJ(v:ah)(w:ae):(Instr.typeAssert (.iface 248 v) 20 248 true).run prog w=.ok (aM #[v,aw true]) w:=by kernel_rfl
attribute [go_sem] Ak Al FD Am CF An Ao FE Ap CG FF FG MJ FH Jr Aq Ar FI As CI CJ CK Js CL FJ
def ef{w w':ae}(h:ai w w w')(o:Obj):ai w w (w'.alloc o):=h.trans ((aO _ _).alloc h.size o)
def cd.kind:cd->Int
 | .eu .. =>1
 | .grant .. =>2
 | .ask _=>3
 | .dj _=>4
 | .stop .. =>5
def adq(m:cd)(iv:ah)(w:ae)(b:∃a n c,iv=av a n c):aj prog 116 #[m.val iv] w λe w'=>e=ax m.kind/\ai w w w':=by
 obtain⟨a,n,c,rfl⟩:=b;unfold cd.val cd.kind;cases m
 all_goals
  simp only;go_in;go_wp2;go_ret;exact⟨rfl,by repeat (first|exact aO _ _|refine ef ?_ _)⟩
def kO(w:ae)(xs:List Int)(t:TypeId)(cs:Array ah)(b:cs=(xs.map (Value.int .i64)).toArray)(h:xs.length<=maxLen):
 aT dX 1 (w.alloc (aB cs t (0,0))) (av (some ⟨w,0,none⟩) xs.length xs.length) xs:=by
 subst b;refine⟨_,_,rfl,h,aP _,λi c=>⟨w,0,rfl,by simp,λj u a=> ?_⟩⟩;have d:j=0:=by
  cases j with
  |zero=>rfl
  |succ j=>simp[dX]at a
 subst d;simp only[dX,List.getElem?_cons_zero,bA]at a;subst a;have e:=a_ w (aB (xs.map (Value.int .i64)).toArray t (0,0));simp only[World.cell?];rw[e];simp[aU,c]
def adr(a b c:Int)(w:ae):aj prog 147 #[av (some ⟨w,0,none⟩) 3 3] (w.alloc (aB #[a,b,c] 3 (0,0))) λe w'=>e=ax (aw (me [a,b,c]))/\w.alloc (aB #[a,b,c] 3 (0,0))=w':=
 Z8 _ _ _ (kO w [a,b,c] 3 _ rfl (by simp[maxLen]))
def ahU(a b:Int)(w:ae):aj prog 147 #[av (some ⟨w,0,none⟩) 2 2] (w.alloc (aB #[a,b] 3 (0,0))) λe w'=>e=ax (aw (me [a,b]))/\w.alloc (aB #[a,b] 3 (0,0))=w':=
 Z8 _ _ _ (kO w [a,b] 3 _ rfl (by simp[maxLen]))
def ahV(a:Int)(w:ae):aj prog 147 #[av (some ⟨w,0,none⟩) 1 1] (w.alloc (aB #[(a:Int)] 3 (0,0))) λe w'=>e=ax (aw (me [a]))/\w.alloc (aB #[(a:Int)] 3 (0,0))=w':=
 Z8 _ _ _ (kO w [a] 3 _ rfl (by simp[maxLen]))
def Ze(a:Int)(w:ae)(n:Nat)(b:n=w.heap.size):aj prog 147 #[av (some ⟨n,0,none⟩) 1 1] (w.alloc (aB #[(a:Int)] 3 (0,0))) λe w'=>e=ax (aw (me [a]))/\w.alloc (aB #[(a:Int)] 3 (0,0))=w':=by subst b;exact ahV a w
def ads(a b:Int)(w:ae)(n:Nat)(c:n=w.heap.size):aj prog 147 #[av (some ⟨n,0,none⟩) 2 2] (w.alloc (aB #[a,b] 3 (0,0))) λe w'=>e=ax (aw (me [a,b]))/\w.alloc (aB #[a,b] 3 (0,0))=w':=by subst c;exact ahU a b w
def ML(a:cf):Bool:=if a.first then(a.jk==0&&a.word.data.toList.isEmpty)else nF a.jk a.word
def nG(a:cf):Bool:=ML a&&(kh a.slot a.aR&&(me [a.query,a.seq,a.aW]&&(iA a.text.data.toList&&(decide (0<=a.k)&&(decide (a.k<=4)&&(decide (1<=a.batch)&&decide (a.batch<=5)))))))
def adt(a:cf)(w:ae)(M:a.text.size<=maxLen)(N:a.word.size<=maxLen):aj prog 148 #[aG #[a.slot,a.query,a.aR,a.seq,a.aW,aA a.text,a.k,a.batch,aw a.first,a.jk,aA a.word]] w λe w'=>e=ax (aw (nG a))/\ai w w w':=by
 obtain⟨slot,d,g,n,h,text,k,l,first,b,c⟩:=a;have⟨u,E⟩:=aD (w.alloc (aB #[slot,d,g,n,h,aA text,k,l,aw first,b,aA c] 240 (0,0)));have⟨O,P,Q⟩:=dt E;have⟨Y,T,U,Z,HB,HU⟩:=eC (λy=>Zd b c y N) (λy=>FC slot g y) (λy=>adr d n h y) (λy=>Mo text y M) O E;have G:=au P.aJ;have A:∃f,f=(b==0&&c.data.toList.isEmpty):=⟨_,rfl⟩
 obtain⟨f,A⟩:=A;have F:=au A;unfold nG ML;simp only;rw[<-A];clear A;have H:∃C,C=(if first then f else nF b c):=⟨_,rfl⟩
 obtain⟨C,t⟩:=H;have x:=au t;rw[<-t];clear t;generalize nF b c=it at*;generalize kh slot g=pl at*;generalize me [d,n,h]=ins at*;generalize iA text.data.toList=asd at*;clear M N E O P;go_in;go_upto_region 1 with fail
 rw[<-HU.o];have j:∀(y:ae),ai u u y->∀i v,([an ar slot,an ar d,an ar g,an ar n,an ar h,aA text,an ar k,an ar l,aw first,an ar b,aA c]:List ah)[i]? =some v->y.cell? ⟨w,i,none⟩=some v:=λy s i v hv=>(s.cell (p:=⟨w,i,none⟩) Q).trans (by simpa[World.cell?,HB.o]using hv)
 have m:=au j;have c9:=j u (aO _ _) 9 _ rfl;have I:=j u (aO _ _) 10 _ rfl;clear j;go_wp2_with fail
 refine aN (Y.o _) ?_;intro y s;have d8:=m.o y s 8 _ rfl;have d9:=m.o y s 9 _ rfl;have J:=m.o y s 10 _ rfl;have K:=bP Q s.size;have q:=au s;clear s c9 I
 go_upto_if 8 with fail
 go_cut [3] (λv wr=>v=aw C/\y=wr)
 case first=>
  cases first
  .go_wp2
   go_meet;exact⟨by rw[x.o];rfl,rfl⟩
  .rw[<-Go.ByteArray.toList_eq]at F
   cases hd:(b==0)
   .go_wp2
    go_meet;exact⟨by rw[x.o,F.o];simp[hd],rfl⟩
   .cases hw:c.toList.isEmpty
    all_goals
     go_wp2;go_meet;exact⟨by rw[x.o,F.o];simp[hd,hw],rfl⟩
 case rest=>
  obtain⟨rfl,rfl⟩:=hcut;have d0:=m.o y q.o 0 _ rfl;have d1:=m.o y q.o 1 _ rfl;have d2:=m.o y q.o 2 _ rfl;have d3:=m.o y q.o 3 _ rfl;have d4:=m.o y q.o 4 _ rfl;have d5:=m.o y q.o 5 _ rfl;have V:=au (G.o.trans (q.o.mono G.o.size));clear d8 d9 J;cases C
  rotate_left
  cases pl
  rotate_left
  cases ins
  rotate_left
  .go_wp2_with (first|(go_at_call 150;refine aH (T.o _) ?_)|(go_at_call 147;refine aH (U.o _) ?_)|fail)
   refine aN (Z.o _) ?_;intro z W;have r:=q.o.trans (((aO _ _).alloc (aP _) _).trans (W.mono (by simp))|>.mono q.o.size);have e6:=m.o z r 6 _ rfl;have e7:=m.o z r 7 _ rfl;have B:=au (G.o.trans (r.mono G.o.size));clear W r d0 d1 d2 d3 d4 d5 K;cases asd
   .go_wp2
    go_ret;exact⟨rfl,B.o⟩
   .by_cases L:0<=k
    .by_cases X:k<=4
     .by_cases b1:1<=l
      .go_wp2
       go_ret;exact⟨cA (by simp[L,X]<;>omega),B.o⟩
      .go_wp2
       go_ret;exact⟨cA (by simp[L,X]<;>omega),B.o⟩
     .go_wp2
      go_ret;exact⟨cA (by simp[L]<;>omega),B.o⟩
    .go_wp2
     go_ret;exact⟨cA (by simp<;>omega),B.o⟩
  all_goals
   go_wp2_with (first|(go_at_call 150;refine aH (T.o _) ?_)|(go_at_call 147;refine aH (U.o _) ?_)|fail);go_ret;exact⟨rfl,by first|exact V.o|exact ef V.o _⟩
def Qo{B:Nat}{F:List Nat}{z:ae}{p:Nat}{g:Option Nat}{A:ah}{b next:Int}{c:List GM}(h:sw z p g A b next c)(r:∀x∈dG p g c,B<=x)(m:B<=z)(hF:∀x∈F,x<z.heap.size/\x∉dG p g c)
 (G:(c.length:Int)<b) (d:GV) {v':ah} {u:Option Nat} (C:Seg z 5 1 u v' (lJ d.fr) d.fr.length) (j:∀x,u=some x->x∉dG p g c/\B<=x/\x∉F):
 ∃fa fc k l t,v'=av fa d.fr.length fc/\
  (∀H,(Builtin.append_ #[166,166] H #[A,av (some ⟨z,0,none⟩) 1 1]).run prog (z.alloc (aB #[d.id,d.lh,d.tO,av fa d.fr.length fc,aw d.sp] 193 (0,0)))=.ok (av k (c.length+1) l) t)/\
  (∃q,t.cell? ⟨p,2,none⟩=some q)/\t.frozen? ⟨p,2,none⟩=false/\p<t/\
  NF B F (t.setCell ⟨p,2,none⟩ (av k (c.length+1) l)) p b next (c.map GM.g++ [d])/\ai B z (t.setCell ⟨p,2,none⟩ (av k (c.length+1) l))/\Kept F z (t.setCell ⟨p,2,none⟩ (av k (c.length+1) l)):=by
 obtain⟨fa,fc,rfl,_⟩:=C.len;have⟨L,t,I,f,v,n,w,y,J,E⟩:=h.grow ⟨d,av fa d.fr.length fc,u⟩ C (λx a=>(j x a).1) G;have⟨k,l,K,_⟩:=v.s.len;subst K;simp only[bF,List.length_singleton]at f v n;have i:∀x∈p::g.toList,x∈dG p g c:=λx a=>by
  simp only[dG,bQ,dJ]at a⊢;obtain a|a:=a
  .exact .inl a
  .exact .inr (.inl a)
 refine⟨fa,fc,k,l,t,rfl,f,w,y,J,⟨I,_,_,v,by simp,?_,bD m n.size,λx a=>⟨bP (hF x a).1 n.size,?_⟩⟩,n.below (λx a=>r x (i x a)) m,Kept.dC n (λx a=>(hF x a).1) (λx a e=>(hF x a).2 (i x e))⟩
 .intro x a
  simp only[dG,bQ,dJ,List.filterMap_append,eZ]at a;obtain rfl|a|a|a:=a
  .exact r _ (by simp[dG])
  .obtain e|⟨q,e,w⟩:=E
   .exact r x (by simp[dG,<-e,a])
   .rw[a]at e;injection e with e
    omega
  .exact r x (by simp[dG]at a⊢;exact .inr (.inr a))
  .simp at a
   exact(j x a).2.1
 .intro e
  simp only[dG,bQ,dJ,List.filterMap_append,eZ]at e;have M:=(hF x a).1;obtain rfl|e|e|e:=e
  .exact(hF _ a).2 (by simp[dG])
  .obtain o|⟨q,o,w⟩:=E
   .exact(hF _ a).2 (by simp[dG,<-o,e])
   .rw[e]at o;injection o with o
    omega
  .exact(hF _ a).2 (by simp[dG]at e⊢;exact .inr (.inr e))
  .simp at e
   exact(j x e).2.2 a
def ot(L:List GV)(most i:Int):Bool:=qm L.length i&&decide ((L.length:Int)<most)
def pK(L:List GV)(most i:Int):List GV:=if ot L most i then L++ [L.getD i.toNat ()]else L
def TG{w:ae}{p:Nat}{g:Option Nat}{v:ah}{d next:Int}{k:List GM}(h:sw w p g v d next k)(i:Int)(l:qm k.length i=false∨(k.length:Int)=d):
 aj prog 69 #[p,(i:Int)] w λe w'=>e=ax (aw false)/\ai w w w':=by
 have b:∀n,aj prog 100 #[p,(i:Int)] (w.drewN n) λe w'=>e=ax (aw (qm k.length i))/\∃m,w'=w.drewN m:=λn=>
  (isC (h.kept (Kept.dC (bo w n) h.lt (by simp))) i).mono λe w' ⟨r,q⟩=>⟨r,n,q.symm⟩
 obtain⟨a,t,rfl,u,q⟩:=h.s.len;have z:=aF h.c 0 rfl;have A:=aF h.c 2 rfl;unfold maxLen at q;clear h;cases hi:qm k.length i
 .rw[hi]at b
  have f:=au b;clear b l;go_in;go_upto_region 1 with fail
  go_quiet (first|(go_at_call 100;exact f.o _))
  all_goals
   have j:=(bo w nq).aJ;generalize w.drewN nq=y at*;go_wp2;go_ret;exact⟨rfl,j⟩
 .have x:(k.length:Int)=d:=by
   obtain h|h:=l
   .rw[hi]at h;cases h
   .exact h
  rw[hi]at b;have f:=au b;clear b l hi;go_in;go_upto_region 1 with fail
  go_quiet (first|(go_at_call 100;exact f.o _))
  all_goals
   have j:=(bo w nq).aJ;generalize w.drewN nq=y at*;go_wp2;go_ret;exact⟨rfl,j⟩
def Qp{B:Nat}{F:List Nat}{w:ae}{p T X cap:Nat}{d next:Int}{b:List GM}{i:Nat}(h:sw w p (some T) (av (some ⟨T,X,none⟩) b.length cap) d next b)(hB:∀x∈dG p (some T) b,B<=x)(Y:B<=w)(hF:∀x∈F,x<w/\x∉dG p (some T) b)
 (hi:i<b.length) (hl:(b.length:Int)<d) (hfl:(b.getD i ()).g.fr.length<=100000):
 aj prog 69 #[p,(i:Int)] w λe w'=>e=ax (aw true)/\NF B F w' p d next (b.map GM.g++ [(b.getD i ()).g])/\ai B w w'/\Kept F w w':=by
 have Z:∀n,aj prog 100 #[p,(i:Int)] (w.drewN n) λe w'=>e=ax (aw true)/\∃m,w'=w.drewN m:=λn=>by
  have:=isC (h.kept (Kept.dC (bo w n) h.lt (by simp))) i;rw[show qm b.length i=true by unfold qm;simp;omega]at this;exact this.mono λe w' ⟨he,hm⟩=>⟨he,n,hm.symm⟩
 have c0:=aF h.c 0 rfl;have c2:=aF h.c 2 rfl;have hne:((b.length:Int)==d)=false:=by simp;omega
 have hmem:b.getD i ()∈b:=by simp[aU,hi]
 have⟨H,HIS,HB,HF⟩:=c_ h Z hB hF;clear Z h;go_in;go_upto_region 1 with fail
 go_quiet (first|(go_at_call 100;exact HIS.o _))
 all_goals
  have gy:aQ ([]:List Nat) w (w.drewN nq):=bo _ _;have k:=H.o.kept (Kept.dC gy H.o.lt (by simp));have⟨y,hy⟩:=aD (w.drewN nq);rw[<-hy]at gy k⊢;clear hy c0 c2;have c2:=aF k.c 2 rfl;have⟨gb',off',cap',hg',he',hgl,hcl⟩:=k.s.cell (by decide) i hi;simp only[bA]at hg';subst hg';simp only[bG,bA,dr,et,bK]at he';obtain⟨rfl,rfl⟩:=he';have C:=k.f _ hmem;have U:∀j u,(b.getD i ()).cells[j]? =some u->j<5->y.cell? ⟨T,X+i*5+j,none⟩=some u:=λj u V hj=>(hcl j u hj (by rw[oh b i j hi hj,V])).1
  generalize hmm:b.getD i ()=m at*;have HMM:=au hmm;clear hmm;obtain⟨⟨g1,g2,g3,K,sp⟩,fv,fb⟩:=m;have⟨fa,fc,hfv,_⟩:=C.len;simp only at hfv C hfl;subst hfv;have w0:=U 0 _ rfl (by decide);have w1:=U 1 _ rfl (by decide);have w2:=U 2 _ rfl (by decide);have w3:=U 3 _ rfl (by decide);have w4:=U 4 _ rfl (by decide);simp only[bM]at w0 w1 w2 w3 w4;have i1:(0:Int)<=(i:Int):=by omega
  have i2:(i:Int)<(b.length:Int):=by omega
  have⟨u,V⟩:=aD (y.alloc (aB #[g1,g2,g3,av fa K.length fc,aw sp] 193 (0,0)));have gu:aQ ([]:List Nat) y u:=V▸(aQ.refl _ _).alloc _;have L:=V▸a_ _ _;have v3:=aF L 3 rfl;have I:=uU _ K u ((gC C).below gu.aJ) (by omega);have⟨HC,HU,HUA,M,GY,HYU⟩:=eC I V L k gy gu;clear k hcl U C gy gu V L I;go_upto_region 4 with fail
  rw[<-HU.o];go_wp2_with fail
  refine HC.m ?_;rintro e z ⟨v',rfl,fb',s',N,b'⟩;obtain⟨O,P,rfl,_⟩:=s'.len;have gz:aQ ([]:List Nat) u z:=aQ.of_below b';have E:=gz.at HUA.o (by simp);have⟨t,ht⟩:=aD (z.setCell ⟨y,3,none⟩ (av O K.length P));have gt:aQ [y.heap.size] z t:=ht▸(aQ.refl _ _).setCell _ (by simp) _;have G:t.heap[y.heap.size]? =some (aB #[g1,g2,g3,av O K.length P,aw sp] 193 (0,0)):=by
   rw[ht];simpa using aE (i:=3) E (av O K.length P)
  have anM:=aF E 3 rfl;have hzf:=bB E 3;have hus:u.heap.size=y.heap.size+1:=by rw[HU.o];simp
  have l:=(HYU.o.trans gz).new gt (by simp);have r:=M.o.kept (Kept.dC l M.o.lt (by simp));have hst:=s'.bH gt λq hq=>by
   have:=N q hq;simp only[cm];omega
  have Q:aQ ([]:List Nat) t t.drew:=(aQ.refl _ t).drew;have hyw:=GY.o.size;have hno:∀q,fb'=some q->q∉dG p (some T) b/\B<=q/\q∉F:=λq hq=>by
   have h1:=N q hq;refine⟨λe=> ?_,by omega,λe=> ?_⟩
   .have:=M.o.lt q e
    omega
   .have:=(HF.o q e).1
    omega
  have⟨fa2,fc2,va,vc,t2,hfe,J,⟨q,hq⟩,hfz,hpt,a⟩:=Qo (r.kept (Kept.dC Q r.lt (by simp))) HB.o (bD Y (bD hyw l.size)) (λx W=>⟨bP (HF.o x W).1 (bD hyw l.size),(HF.o x W).2⟩) hl ⟨g1,g2,g3,K,sp⟩ (hst.bH Q (by simp)) hno;simp only[bG,bK]at hfe;obtain⟨rfl,rfl⟩:=hfe;have⟨k0,k1,k2⟩:=oN G;have k3:=aF G 3 rfl;have k4:=aF G 4 rfl;have kp:=aF r.c 2 rfl;have htp:=az r.c;have v:=GY.o.trans l;have A:NF B F (t2.setCell ⟨p,2,none⟩ (av va (b.length+1) vc)) p d next (b.map GM.g++ [⟨g1,g2,g3,K,sp⟩])/\ai B w (t2.setCell ⟨p,2,none⟩ (av va (b.length+1) vc))/\Kept F w (t2.setCell ⟨p,2,none⟩ (av va (b.length+1) vc)):=
   ⟨a.1,(v.aJ.mono Y).trans ⟨a.2.1.os,a.2.1.tape,a.2.1.output,a.2.1.size,a.2.1.block⟩,(Kept.dC v (λx W=>(HF.o x W).1) (by simp)).trans (λx W=>a.2.2 x W)⟩
  have⟨ke,gN,HT⟩:=aX A J ht;clear s' N b' gz E ht gt G l r hst Q hno J a A v w0 w1 w2 w3 w4 v3 c2;go_upto_region 5 with fail
  rw[<-HT.o];go_region_law (first
   |(refine kM (by rfl) (.tmp 37) (.tmp 39) 166 (by rfl) _ _ _ t2 (by kernel_rfl) (by kernel_rfl) (gN.o _) ?_)
   |fail)
  all_goals
   go_wp2_with fail
   go_ret;rw[HMM.o];exact⟨rfl,ke.o⟩
def W2{B:Nat}{F:List Nat}{w:ae}{p:Nat}{a next:Int}{L:List GV}(h:NF B F w p a next L)(n:∀x∈L,x.fr.length<=100000)(i:Int):
 aj prog 69 #[p,(i:Int)] w λe w'=>e=ax (aw (ot L a i))/\NF B F w' p a next (pK L a i)/\ai B w w'/\Kept F w w':=by
 have H:=h;obtain⟨g,v,c,j,rfl,z,o,hF⟩:=h;by_cases b:ot (c.map GM.g) a i=true
 .have d:=b
  unfold ot at d;simp only[cr,cV,ei]at d;obtain⟨q,A⟩:=d;obtain⟨k,rfl,m⟩:=rM q;obtain⟨M,C,E,rfl,rfl,G,I⟩:=j.s.cell (by decide) k m;have r:(c.map GM.g).getD k ()=(c.getD k ()).g:=by simp[aU,m]
  have f:(c.getD k ()).g∈c.map GM.g:=List.mem_map.2 ⟨c.getD k (),by simp[aU,m],rfl⟩;refine(Qp j z o hF m A (n _ f)).mono λe w' ⟨t,J,K⟩=>⟨by rw[t,b],?_,K⟩
  unfold pK;rw[b,aI rfl,gE,r];exact J
 .have b:ot (c.map GM.g) a i=false:=by simpa using b
  have u:qm c.length i=false∨(c.length:Int)=a:=by
   unfold ot at b;simp only[cr]at b;cases q:qm c.length i
   .exact .inl rfl
   .rw[q]at b
    have:=j.l;simp at b;exact .inr (by omega)
  refine(TG j i u).mono λe w' ⟨t,y⟩=>⟨by rw[t,b],?_⟩
  unfold pK;rw[b];exact H.here y
def bR(c:aV)(s:Int):List Int:=if cP s 0 (aZ c-1)=true then(List.range c.copies.toNat).map λj:Nat=>1+(s+(j:Int))%c.workers else []
def MN{c:aV}{s:Int}(h:cP s 0 (aZ c-1)=true):c.bd/\0<=s/\s<=5:=by
 rw[kA]at h;unfold aZ at h;split at h
 .rename_i a
  have:=aV.bounds a;have:=this.cu;exact⟨aV.bounds a,by omega,by omega⟩
 .omega
def OS(c:aV)(s:Int)(w:ae)(J:c.ok w):aj prog 81 #[c.val,(s:Int)] w λe w'=>∃v,e=ax v/\fU w w' v (bR c s)/\ai w w w':=by
 obtain⟨u,hu⟩:=aD (w.alloc (aB c.cells.toArray 25 (0,0)));obtain⟨n,X,hg⟩:=aV.box hu;have HS:=au (zB c u (J.below hg.aJ));have C:=λh=>MN (c:=c) (s:=s) h
 have hsh:0<=aZ c/\aZ c<=6:=by
  unfold aZ;split
  .rename_i hm
   have:=(aV.bounds hm).cu;omega
  .omega
 have K:bR c s=bR c s:=rfl;unfold bR at K⊢;generalize aZ c=Y at*;have M:∀y,aj prog 62 #[(s:Int),an ar 0,an ar (Y-1)] y λe w'=>e=ax (aw (cP s 0 (Y-1)))/\y=w':=λy=>jV _ _ _ y
 obtain⟨wv,cv,words,cuts,b,d,g,l,aS,m,first,E,f,net⟩:=c;have N:aj prog 80 #[aG #[wv,cv,b,d,g,l,aS,m,first,E,f,net]] u λe w'=>e=ax Y/\ai u u w':=HS.o
 have HU:=au (show u=w.alloc (aB #[wv,cv,b,d,g,l,aS,m,first,E,f,net] 25 (0,0))from hu);have c0:=n 0 _ rfl;have c1:=n 1 _ rfl;have c2:=n 2 _ rfl;have c3:=n 3 _ rfl;have c4:=n 4 _ rfl;have c5:=n 5 _ rfl;have c6:=n 6 _ rfl;have c7:=n 7 _ rfl;have c8:=n 8 _ rfl;have c9:=n 9 _ rfl;have c10:=n 10 _ rfl;have c11:=n 11 _ rfl;obtain⟨G,HS'⟩:=aK hg.aJ N;clear hu hg J n N K
 show aj prog 81 #[aG #[wv,cv,b,d,g,l,aS,m,first,E,f,net],an ar s] w _
 generalize cP s 0 (Y-1)=wi at*;have HW:=au M;clear M;go_in;go_upto_region 1 with fail
 rw[<-HU.o];obtain⟨sh1,sh2⟩:=hsh;go_wp2_with fail
 refine aN HS'.o ?_;intro y O;have d2:=(O.cell (p:=⟨w,2,none⟩) X).trans c2;have d3:=(O.cell (p:=⟨w,3,none⟩) X).trans c3;have hl1:=bP X O.size;have Z:=au (G.o.trans (O.mono G.o.size));clear O c0 c1 c2 c3 c4 c5 c6 c7 c8 c9 c10 c11 X;go_wp2_with fail
 refine aH (HW.o y) ?_;cases wi
 .clear C
  go_wp2;go_ret;exact⟨_,rfl,Own.nil _ _ _ _,Z.o⟩
 .obtain⟨⟨w1,w2,k1,k2,_⟩,s0,s5⟩:=C rfl
  clear C;simp only at w1 w2 k1 k2;have z:((List.range d.toNat).map λj:Nat=>1+(s+(j:Int))%b).length=d.toNat:=by simp
  have A:∀k:Nat,k<d.toNat->((List.range d.toNat).map λj:Nat=>1+(s+(j:Int))%b).take (k+1)=((List.range d.toNat).map λj:Nat=>1+(s+(j:Int))%b).take k++ [1+(s+(k:Int))%b]:=λk hk=>by
   rw[List.take_add_one];simp[hk]
  generalize P:((List.range d.toNat).map λj:Nat=>1+(s+(j:Int))%b)=L at*;have HL:=au P;clear P;obtain⟨Q,B⟩:=aK A z;clear A z;go_wp2_with fail
  go_loopw [5,15] (λv i wr=>∃k:Nat,(k:Int)<=d/\i=an ar k/\fU y wr v (L.take k)/\ai y y wr) (λ_ i _=>d.toNat-(intOf i).toNat)
  case atStart=>exact⟨0,by omega,rfl,Own.nil _ _ _ _,aO _ _⟩
  case round=>
   obtain⟨k,hk,rfl,H,I⟩:=hrel;obtain⟨a,cp,rfl,hn1,T⟩:=H.len;have r:(L.take k).length=k:=by rw[dw,B.o];omega
   unfold maxLen at T;by_cases hlt:(k:Int)<d
   .obtain⟨a',c',x,q,t,U⟩:=H.push (1+(s+(k:Int))%b) (by omega) I.size
    rw[<-Q.o k (by omega)]at t;rw[r]at q t hn1 T⊢;have e2:=(I.cell (p:=⟨w,2,none⟩) hl1).trans d2;have V:0<=(s+(k:Int))%b/\(s+(k:Int))%b<b:=⟨Int.emod_nonneg _ (by omega),Int.emod_lt_of_pos _ (by omega)⟩;obtain⟨m1,m2⟩:=V;have hw0:¬b=0:=by omega
    obtain⟨W,HI,HB⟩:=aX q t (I.trans U);clear H I q t U r;go_wp2_with (refine cE (by rfl) (.tmp 18) (.tmp 26) 43 (by rfl) _ _ _ x (by rfl) (by rfl) (W.o _) ?_);go_roundw
    case rel=>exact⟨k+1,by omega,by simp,HI.o,HB.o⟩
    case measure=>simp[intOf];omega
   .have F:L.take k=L:=jY (by rw[B.o];omega)
    rw[F]at H r;rw[F];obtain⟨HI,HB⟩:=aK (H.mono (bD (by omega) Z.o.size:w.heap.size<=y.heap.size)) (Z.o.trans (I.mono Z.o.size));clear H I r F;go_wp2;go_ret;exact⟨av a L.length cp,rfl,by rw[HL.o];exact HI.o,HB.o⟩
def fw(c:aV)(x:Int):List Int:=((List.range (aZ c).toNat).map λs:Nat=>(s:Int)).filter λs=>(bR c s).contains x
def cW(c:aV):0<=aZ c/\aZ c<=6:=by
 unfold aZ;split
 .rename_i a
  have:=(aV.bounds a).cu;omega
 .omega
def aV.cellAt{c:aV}{w u:ae}{b:Nat}(h:∀i v,c.cells[i]? =some v->u.cell? ⟨b,i,none⟩=some v)(a:b<u)(d:ai u u w):∀i v,c.cells[i]? =some v->w.cell? ⟨b,i,none⟩=some v:=
 λi v e=>(d.cell (p:=⟨b,i,none⟩) a).trans (h i v e)
def TH(c:aV)(x:Int)(w:ae)(B:c.ok w):aj prog 86 #[c.val,(x:Int)] w λe w'=>∃v,e=ax v/\fU w w' v (fw c x)/\ai w w w':=by
 have⟨u,hu⟩:=aD (w.alloc (aB c.cells.toArray 25 (0,0)));have⟨n,hl,hg⟩:=aV.box hu;have HS:=au (zB c u (B.below hg.aJ));have M:=λy s hy=>OS c s y ((B.below hg.aJ).below hy)
 have N:∀k:Nat,(k:Int)<aZ c->((((List.range (aZ c).toNat).map λs:Nat=>(s:Int)).take (k+1)).filter λs=>(bR c s).contains x)=((((List.range (aZ c).toNat).map λs:Nat=>(s:Int)).take k).filter λs=>(bR c s).contains x)++if(bR c k).contains x then [(k:Int)]else []:=λk hk=>by
  rw[List.take_add_one,List.filter_append];have:(List.range (aZ c).toNat)[k]? =some k:=by rw[List.getElem?_range (by omega)]
  rw[uP,this];simp only[Option.map_some,Option.toList_some,List.filter_cons,List.filter_nil]
 have p:(((List.range (aZ c).toNat).map λs:Nat=>(s:Int)).take (aZ c).toNat).filter (λs=>(bR c s).contains x)=fw c x:=by
  unfold fw;rw[jY (by simp)]
 have⟨F,hF⟩:= @aD (Nat->List Int) (λk=>((((List.range (aZ c).toNat).map λs:Nat=>(s:Int)).take k).filter λs=>(bR c s).contains x));have O:F 0=[]:=by rw[hF];simp
 have P:∀k:Nat,(k:Int)<aZ c->F (k+1)=F k++if(bR c k).contains x then [(k:Int)]else []:=λk hk=>by rw[hF];exact N k hk
 have E:F (aZ c).toNat=fw c x:=by rw[hF];exact p
 have Q:∀k:Nat,(F k).length<=k:=λk=>by
  rw[hF];exact bD (List.length_filter_le _ _) (by simp;omega)
 have⟨sh1,sh2⟩:=cW c;have⟨R,hR⟩:=aD (fw c x);rw[<-hR]at E⊢;clear N p hF hR;generalize aZ c=sh at*;generalize hcf:bR c=C at*;clear hcf;obtain⟨wv,cv,words,cuts,b,f,h,j,aS,l,first,q,g,net⟩:=c;have T:aj prog 80 #[aG #[wv,cv,b,f,h,j,aS,l,first,q,g,net]] u λe w'=>e=ax sh/\ai u u w':=HS.o
 have t:∀(y:ae) (s:Int),ai u u y->aj prog 81 #[aG #[wv,cv,b,f,h,j,aS,l,first,q,g,net],an ar s] y λe w'=>∃v,e=ax v/\fU y w' v (C s)/\ai y y w':=M
 have HU:=au (show u=w.alloc (aB #[wv,cv,b,f,h,j,aS,l,first,q,g,net] 25 (0,0))from hu);have c0:=n 0 _ rfl;have c1:=n 1 _ rfl;have c2:=n 2 _ rfl;have c3:=n 3 _ rfl;have c4:=n 4 _ rfl;have c5:=n 5 _ rfl;have c6:=n 6 _ rfl;have c7:=n 7 _ rfl;have c8:=n 8 _ rfl;have c9:=n 9 _ rfl;have H:=n 10 _ rfl;have I:=n 11 _ rfl;have⟨G,MD,HS',Jt,MO,TI⟩:=eC hg.aJ n T t O P;have⟨W3,I1⟩:=aK E Q;clear hu hg B n T M t O P E Q
 show aj prog 86 #[aG #[wv,cv,b,f,h,j,aS,l,first,q,g,net],an ar x] w _
 go_in;go_upto_region 2 with fail
 rw[<-HU.o];go_wp2_with fail
 refine aN HS'.o ?_;intro y hy;have HY:=au hy;clear hy c0 c1 c2 c3 c4 c5 c6 c7 c8 c9 H I;go_wp2_with fail
 go_loopw [5,9] (λv i wr=>∃k:Nat,(k:Int)<=sh/\i=an ar k/\fU u wr v (F k)/\ai u u wr) (λ_ i _=>sh.toNat-(intOf i).toNat)
 case atStart=>exact⟨0,by omega,rfl,by rw[MO.o];exact Own.nil _ _ _ _,HY.o⟩
 case round=>
  obtain⟨k,hk,rfl,U,L⟩:=hrel;obtain⟨a,cp,rfl,hn1,hn2⟩:=U.len;have hkl:=I1.o k;unfold maxLen at hn2;by_cases hlt:(k:Int)<sh
  .have d:=aV.cellAt MD.o hl L
   have c0:=d 0 _ rfl;have c1:=d 1 _ rfl;have c2:=d 2 _ rfl;have c3:=d 3 _ rfl;have c4:=d 4 _ rfl;have c5:=d 5 _ rfl;have c6:=d 6 _ rfl;have c7:=d 7 _ rfl;have c8:=d 8 _ rfl;have c9:=d 9 _ rfl;have H:=d 10 _ rfl;have I:=d 11 _ rfl;have⟨HC,HI,HB⟩:=aX (Jt.o wr k L) U L;clear U L d;go_wp2_with fail
   refine HC.m ?_;rintro e z ⟨v,rfl,hv,hz⟩;have V:=au (pJ v (C k) x z hv.reads);have r:=HI.o.below hz;have⟨J,W⟩:=aK (HB.o.trans (hz.mono HB.o.size)) (TI.o k hlt);clear hv hz c0 c1 c2 c3 c4 c5 c6 c7 c8 c9 H I;generalize(C k).contains x=hit at*;cases hit
   .have K:=au (show fU u z (av a (F k).length cp) (F (k+1))by
     have e:F (k+1)=F k:=by rw[W.o];simp
     rw[e];exact r)
    clear r;go_wp2_with fail
    refine aH V.o ?_;go_wp2;go_roundw
    case rel=>exact⟨k+1,by omega,by simp,K.o,J.o⟩
    case measure=>simp[intOf];omega
   .have⟨a',c',z2,A,X,Y⟩:=fU.push r (k:Int) (by omega) J.o.size
    have K:=au (show fU u z2 (av a' ((F k).length+1) c') (F (k+1))by
     have e:F (k+1)=F k++ [(k:Int)]:=by rw[W.o];simp
     rw[e];exact X)
    have⟨Z,HB3⟩:=aK A (J.o.trans Y);clear r A X Y;go_wp2_with fail
    refine aH V.o ?_;go_wp2_with (refine cE (by rfl) (.tmp 17) (.tmp 19) 43 (by rfl) _ _ _ z2 (by rfl) (by rfl) (Z.o _) ?_);go_roundw
    case rel=>exact⟨k+1,by omega,by simp,K.o,HB3.o⟩
    case measure=>simp[intOf];omega
  .have p:F k=R:=by rw[<-W3.o];congr 1;omega
   have⟨HI,HB⟩:=aK (show fU w wr (av a (F k).length cp) R by rw[<-p];exact U.mono G.o.size) (G.o.trans (L.mono G.o.size));clear U L p;go_wp2;go_ret;exact⟨av a (F k).length cp,rfl,HI.o,HB.o⟩
def At(cuts:List fI)(k:fI):Nat:=cuts.countP λc=> !gI k c
theorem Ju{a:Type}[Inhabited a](p:a->Bool)(L:List a)(k:Nat)(b:k<L.length):(L.take (k+1)).countP p=(L.take k).countP p+if p (L.getD k ())then 1 else 0:=by
 rw[List.take_add_one,List.countP_append];congr 1;simp[jZ b,aU,List.countP_cons]
def Z9(v:ah)(d:List fI)(l:Int)(t:ByteArray)(w:ae)(h:aT fI.cells 2 w v d)(hn:d.length<=1000):
 aj prog 190 #[v,aG #[(l:Int),aA t],.func (.func 90) #[] #[]] w λe w'=>e=ax (At d ⟨l,t⟩:Int)/\ai w w w':=by
 have⟨u,K⟩:=aD (w.alloc (aB #[(l:Int),aA t] 116 (0,0)));have⟨X,L,Y⟩:=dt K;have HR:=au (h.below L.aJ);obtain⟨a,cap,rfl,hm,hc,_⟩:=h;unfold maxLen at hm;have⟨z,M⟩:=aD (At d ⟨l,t⟩);rw[<-M];have f:=λk H=>Ju (λc=> !gI ⟨l,t⟩ c) d k H
 have r:(d.take d.length).countP (λc=> !gI ⟨l,t⟩ c)=z:=by rw[M,fR];rfl
 have s:∀k,(d.take k).countP (λc=> !gI ⟨l,t⟩ c)<=k:=λk=>bD List.countP_le_length (by simp;omega)
 have⟨F,hF⟩:= @aD (Nat->Nat) (λk=>(d.take k).countP (λc=> !gI ⟨l,t⟩ c));have A:F 0=0:=by rw[hF];simp
 have⟨N,O,P,Q,HU,H1⟩:=eC A (show∀k,k<d.length->F (k+1)=F k+if !gI ⟨l,t⟩ (d.getD k ())then 1 else 0 fromλk H=>by rw[hF];exact f k H) (show F d.length=z by rw[hF];exact r) (show∀k,F k<=k by rw[hF];exact s) K X;have G:=au L.aJ;clear M f r s hF A K X L;go_in;go_upto_region 1 with fail
 rw[<-HU.o];go_wp2_with fail
 go_loopw [7,12] (λv i wr=>∃k:Nat,k<=d.length/\i=an ar k/\v=an ar (F k)/\ai u u wr) (λ_ i _=>d.length-(intOf i).toNat)
 case atStart=>exact⟨0,bz _,rfl,by rw[N.o];rfl,aO _ _⟩
 case round=>
  obtain⟨k,H,rfl,rfl,g⟩:=hrel;have hfk:=Q.o k;by_cases B:k<d.length
  .obtain⟨b,off,rfl,hbl,m⟩:=(HR.o.below g).slot k B
   have n:=m 0 _ rfl;have C:=m 1 _ rfl;simp only[bM]at n;have f:=O.o k B;generalize d.getD k ()=x at*;obtain⟨T,U⟩:=x;simp only at n C;have q1:(0:Int)<=(k:Int):=by omega
   have q2:(k:Int)<(d.length:Int):=by omega
   have j:=(g.block w Y).trans H1.o;have⟨Z,b1⟩:=dk j;have E:=bP Y g.size;have⟨y,V⟩:=aD (wr.alloc (aB #[T,aA U] 116 (0,0)));have⟨h2,I,hl2⟩:=dt V;have⟨d0,d1⟩:=dk h2;have e0:=(I.aJ.cell (p:=⟨w,0,none⟩) E).trans Z;have e1:=(I.aJ.cell (p:=⟨w,1,none⟩) E).trans b1;have⟨HC,J,HY⟩:=aX (Ji l T t U y) (g.trans (I.aJ.mono g.size)) V;generalize gI ⟨l,t⟩ ⟨T,U⟩=less at*;have HK:=au f;clear m g f j V h2 I Z b1;go_upto_region 5 with fail
   rw[<-HY.o];clear n C;go_wp2_with fail
   refine aN HC.o ?_;intro x hx;have HX:=au (J.o.trans (hx.mono J.o.size));clear hx d0 d1 e0 e1;cases less
   .have q:=au (show F (k+1)=F k+1 by rw[HK.o];rfl)
    go_wp2;go_roundw
    case rel=>exact⟨k+1,by omega,rfl,by rw[q.o];simp,HX.o⟩
    case measure=>simp[intOf];omega
   .have q:=au (show F (k+1)=F k by rw[HK.o];rfl)
    go_wp2;go_roundw
    case rel=>exact⟨k+1,by omega,rfl,by rw[q.o],HX.o⟩
    case measure=>simp[intOf];omega
  .obtain rfl:k=d.length:=by omega
   have⟨J,W⟩:=aK (G.o.trans (g.mono G.o.size)) P.o;clear g;go_wp2;go_ret;exact⟨kH (by rw[W.o]),J.o⟩
def Wk(cuts:List fI)(s:ByteArray):Int:=if mQ s.data.toList then At cuts ⟨iX s.data.toList,s⟩else-1
def W5(v:ah)(b:List fI)(s:ByteArray)(w:ae)(h:aT fI.cells 2 w v b)(k:b.length<=1000)(t:s.size<=1000):
 aj prog 181 #[v,aA s] w λe w'=>e=ax (Wk b s:Int)/\ai w w w':=by
 have⟨i,l,m⟩:=aX (SX s w (by unfold maxLen;omega)) (show∀y,aj prog 77 #[aA s] y λe w'=>e=ax (iX s.data.toList:Int)/\ai y y w' fromλy=>SV s y (by unfold maxLen;omega)) (show∀y,ai w w y->aj prog 190 #[v,aG #[an ar (iX s.data.toList),aA s],.func (.func 90) #[] #[]] y λe w'=>e=ax (At b ⟨iX s.data.toList,s⟩:Int)/\ai y y w' fromλy d=>Z9 v b _ s y (h.below d) k);obtain⟨a,p,rfl,q,u,_⟩:=h;unfold maxLen at q;unfold Wk;generalize mQ s.data.toList=wd at*;generalize iX s.data.toList=n at*;generalize At b ⟨n,s⟩=z at*;cases wd
 .go_in
  go_wp2_with fail
  refine aN i.o ?_;intro x c;have f:=au c;clear c;go_wp2;go_ret;exact⟨rfl,f.o⟩
 .go_in
  go_wp2_with fail
  refine aN i.o ?_;intro x c;have f:=au c;clear c;go_wp2_with fail
  refine aN (l.o x) ?_;intro y d;have g:=au (f.o.trans (d.mono f.o.size));clear d;go_wp2_with fail
  refine aN (m.o y g.o) ?_;intro A j;have r:=au (g.o.trans (j.mono g.o.size));clear j;go_wp2;go_ret;exact⟨rfl,r.o⟩
def mM(cuts:List fI)(words:List ByteArray)(sh:Int):List ByteArray:=words.filter λs=>decide (0<=Wk cuts s)&&decide (Wk cuts s=sh)
theorem Jv{a:Type}[Inhabited a](p:a->Bool)(L:List a)(k:Nat)(b:k<L.length):(L.take (k+1)).filter p=(L.take k).filter p++if p (L.getD k ())then [L.getD k ()]else []:=by
 rw[List.take_add_one,List.filter_append];congr 1;simp[jZ b,aU,List.filter_cons]
def Z_(v Y:ah)(d:List fI)(c:List ByteArray)(l:Int)(w:ae)(h:aT fI.cells 2 w v d)(n:aT oR 1 w Y c)(hn:d.length<=1000)(hn2:c.length<=1000)(N:∀s∈c,s.size<=1000):
 aj prog 161 #[v,Y,(l:Int)] w λe w'=>∃r,e=ax r/\mI w w' r (mM d c l)/\ai w w w':=by
 have⟨HO,HR,HS⟩:=aX (show∀y s,ai w w y->s.size<=1000->aj prog 181 #[v,aA s] y λe w'=>e=ax (Wk d s:Int)/\ai y y w' fromλy s hy N=>W5 v d s y (h.below hy) hn N) n N;obtain⟨a,cap,rfl,hm,hc,_⟩:=h;obtain⟨a2,Z,rfl,O,hc2,_⟩:=n;unfold maxLen at hm O;have⟨p,P⟩:= @aD (ByteArray->Bool) (λs=>decide (0<=Wk d s)&&decide (Wk d s=l));have B:mM d c l=c.filter p:=by rw[P];rfl
 rw[B];have⟨HT,HE,HL,HP⟩:=c_ (λk hk=>Jv p c k hk) (show(c.take c.length).filter p=c.filter p by rw[fR]) (show∀k,((c.take k).filter p).length<=k fromλk=>bD (List.length_filter_le _ _) (by simp;omega)) P;clear P B N;have⟨R,B⟩:=aD (c.filter p);rw[<-B]at HE⊢;clear B;go_in;go_wp2_with fail
 go_loopw [7,13] (λr i wr=>∃k:Nat,k<=c.length/\i=an ar k/\mI w wr r ((c.take k).filter p)/\ai w w wr) (λ_ i _=>c.length-(intOf i).toNat)
 case atStart=>exact⟨0,bz _,rfl,Own.nil _ _ _ _,aO _ _⟩
 case round=>
  obtain⟨k,hk,rfl,C,A⟩:=hrel;obtain⟨ra,rc,rfl,hr1,Q⟩:=C.len;have hrl:=HL.o k;unfold maxLen at Q;by_cases u:k<c.length
  .obtain⟨b,off,rfl,hbl,E⟩:=(HR.o.below A).slot k u
   have T:=E 0 _ rfl;simp only[bM,Nat.mul_one]at T;have U:=HS.o _ (bh c k u);have F:=HT.o k u;generalize c.getD k ()=s at*;have V:=au (HO.o wr s A U);have f:p s=(decide (0<=Wk d s)&&decide (Wk d s=l)):=by rw[HP.o]
   generalize Wk d s=o at*;have q1:(0:Int)<=(k:Int):=by omega
   have q2:(k:Int)<(c.length:Int):=by omega
   have⟨G,q,H⟩:=aX C A F;clear E C A F;cases hpv:p s
   .rw[hpv]at f
    have m:=au (show(c.take (k+1)).filter p=(c.take k).filter p by rw[H.o,hpv];simp);have z:¬0<=o∨(0<=o/\¬o=l):=by
     simp at f;omega
    clear f hpv;obtain h1|⟨h1,n⟩:=z
    .go_wp2_with fail
     refine aN V.o ?_;intro x g;have⟨I,j⟩:=aK (q.o.trans (g.mono q.o.size)) (G.o.below g);clear g;go_wp2;go_roundw
     case rel=>exact⟨k+1,by omega,rfl,by rw[m.o];exact j.o,I.o⟩
     case measure=>simp[intOf];omega
    .have W:(o==l)=false:=by simp[n]
     clear n;go_wp2_with fail
     refine aN V.o ?_;intro x g;have⟨I,j⟩:=aK (q.o.trans (g.mono q.o.size)) (G.o.below g);clear g;go_wp2;go_roundw
     case rel=>exact⟨k+1,by omega,rfl,by rw[m.o];exact j.o,I.o⟩
     case measure=>simp[intOf];omega
   .rw[hpv]at f
    have m:=au (show(c.take (k+1)).filter p=(c.take k).filter p++ [s]by rw[H.o,hpv];simp);have z:0<=o/\o=l:=by simpa using f.symm
    obtain⟨h1,n⟩:=z;have W:(o==l)=true:=by simp[n]
    clear f hpv n;go_wp2_with fail
    refine aN V.o ?_;intro x g;have X:=q.o.trans (g.mono q.o.size);have⟨a',c',y,t,J,K⟩:=mI.push (G.o.below g) s (by omega) X.size;have⟨L,j,I⟩:=aX t J (X.trans K);clear g X t J K;go_wp2_with (refine cE (by rfl) (.tmp 27) (.tmp 29) 22 (by rfl) _ _ _ y (by rfl) (by rfl) (L.o _) ?_);go_roundw
    case rel=>exact⟨k+1,by omega,rfl,by rw[m.o];exact j.o,I.o⟩
    case measure=>simp[intOf];omega
  .have M:(c.take k).filter p=R:=by
    obtain rfl:k=c.length:=by omega
    exact HE.o
   have⟨G,q⟩:=aK (show mI w wr (av ra ((c.take k).filter p).length rc) R by rw[<-M];exact C) A;clear C A M;go_wp2;go_ret;exact⟨_,rfl,G.o,q.o⟩
def tS(cuts:List fI)(n:Nat):Int:=if 0<n then(cuts.getD (n-1) ()).len else 1
def tT(cuts:List fI)(n:Nat):Int:=if n<cuts.length then(if(cuts.getD n ()).text.data.toList=[]then(cuts.getD n ()).len-1 else(cuts.getD n ()).len)else 12
def Jw(s:ByteArray):(s.data.toList=[]/\s.toList.isEmpty=true)∨(¬s.data.toList=[]/\s.toList.isEmpty=false):=by
 rw[Go.ByteArray.toList_eq];cases s.data.toList<;>simp
def adx(v:ah)(cuts:List fI)(n:Nat)(w:ae)(h:aT fI.cells 2 w v cuts)(hn:cuts.length<=1000)(hk:n<=cuts.length)(hb:∀c∈cuts,Sy c=true):
 aj prog 140 #[v,(n:Int)] w λe w'=>e=ax (aM #[an ar (tS cuts n),an ar (tT cuts n)])/\w=w':=by
 have HR:=au h;obtain⟨a,cap,rfl,hm,hc,_⟩:=h;unfold maxLen at hm;have q0:¬((n:Int)<0):=by omega
 have q1:¬((cuts.length:Int)<(n:Int)):=by omega
 unfold tS tT;have hlen:∀i,i<cuts.length->1<=(cuts.getD i ()).len/\(cuts.getD i ()).len<=12:=λi hi=>by
  have:=hb _ (bh cuts i hi);simp only[Sy,Bool.and_eq_true,decide_eq_true_eq]at this;exact⟨this.1.1.1,this.1.1.2⟩
 have HLEN:=au hlen;clear hb hlen;cases n with
 |zero=>
  by_cases hlt:0<cuts.length
  .obtain⟨b,off,rfl,hbl,hcl⟩:=HR.o.slot 0 hlt
   have hc0:=hcl 0 _ rfl;have hc1:=hcl 1 _ rfl;simp only[Nat.add_zero,Nat.zero_mul]at hc0 hc1;have hl:=HLEN.o 0 hlt;have q2:(0:Int)<(cuts.length:Int):=by omega
   obtain⟨x,hx⟩:∃x,x=cuts.getD 0 ():=⟨_,rfl⟩
   rw[<-hx]at hc0 hc1 hl⊢;clear hcl hx;obtain⟨xl,xt⟩:=x;simp only at hc0 hc1 hl⊢;obtain⟨l1,l2⟩:=hl;obtain⟨ht,hE⟩|⟨ht,hE⟩:=Jw xt
   all_goals
    go_in;go_wp2_with fail
    go_ret2;exact⟨by simp[ht,hlt],rfl⟩
  .have q2:¬(0:Int)<(cuts.length:Int):=by omega
   go_in;go_wp2_with fail
   go_ret2;exact⟨by simp[hlt],rfl⟩
 |succ n=>
  obtain⟨b,off,rfl,hbl,hcl⟩:=HR.o.slot n (by omega);have hc0:=hcl 0 _ rfl;simp only[Nat.add_zero]at hc0;have hl:=HLEN.o n (by omega);have hnn:n+1-1=n:=by omega
  rw[hnn];have p0:(0:Int)<=(n:Int):=by omega
  have p1:(n:Int)<(cuts.length:Int):=by omega
  have p2:(0:Int)<(n:Int)+1:=by omega
  by_cases hlt:n+1<cuts.length
  .have⟨b',off',hab,_,hcl'⟩:=HR.o.slot (n+1) hlt
   simp only[Option.some.injEq,Addr.mk.injEq,and_true]at hab;obtain⟨rfl,rfl⟩:=hab;have hd0:=hcl' 0 _ rfl;have hd1:=hcl' 1 _ rfl;simp only[Nat.add_zero]at hd0;have hl':=HLEN.o (n+1) hlt;have q2:(n:Int)+1<(cuts.length:Int):=by omega
   obtain⟨x,hx⟩:∃x,x=cuts.getD n ():=⟨_,rfl⟩
   obtain⟨y,hy⟩:∃y,y=cuts.getD (n+1) ():=⟨_,rfl⟩
   rw[<-hx]at hc0 hl⊢;rw[<-hy]at hd0 hd1 hl'⊢;clear hcl hcl' hx hy;obtain⟨xl,xt⟩:=x;obtain⟨yl,yt⟩:=y;simp only at hc0 hd0 hd1 hl hl'⊢;obtain⟨l1,l2⟩:=hl;obtain⟨l3,l4⟩:=hl';obtain⟨ht,hE⟩|⟨ht,hE⟩:=Jw yt
   all_goals
    go_in;go_wp2_with fail
    go_ret2;exact⟨by simp[ht,hlt],rfl⟩
  .have q2:¬(n:Int)+1<(cuts.length:Int):=by omega
   obtain⟨x,hx⟩:∃x,x=cuts.getD n ():=⟨_,rfl⟩
   rw[<-hx]at hc0 hl⊢;clear hcl hx;obtain⟨xl,xt⟩:=x;simp only at hc0 hl⊢;go_in;go_wp2_with fail
   go_ret2;exact⟨by simp[hlt],rfl⟩
def uY(cuts:List fI)(sh:Nat)(n:Int):Int:=
 if tT cuts sh<tS cuts sh then-1 else if n<tS cuts sh then tS cuts sh-n else if tT cuts sh<n then n-tT cuts sh else 0
def W6{a:List fI}{n:Nat}(f:n<=a.length)(d:∀c∈a,Sy c=true):(1<=tS a n/\tS a n<=12)/\0<=tT a n/\tT a n<=12:=by
 have b:∀i,i<a.length->1<=(a.getD i ()).len/\(a.getD i ()).len<=12:=λi e=>by
  have:=d _ (bh a i e);simp only[Sy,cV,ei]at this;exact⟨this.1.1.1,this.1.1.2⟩
 unfold tS tT;constructor
 .split
  .exact b _ (by omega)
  .omega
 .split
  .rename_i h
   have:=b n h;split<;>omega
  .omega
def aaa(v:ah)(b:List fI)(d:Nat)(n:Int)(w:ae)(h:aT fI.cells 2 w v b)(j:b.length<=1000)(i:d<=b.length)(g:∀c∈b,Sy c=true)(l: -1<=n)(m:n<=1000):
 aj prog 112 #[v,(d:Int),(n:Int)] w λe w'=>e=ax (uY b d n:Int)/\w=w':=by
 have f:=au (adx v b d w h j i g);have⟨⟨p,q⟩,r,s⟩:=W6 i g;obtain⟨a,k,rfl,t,u,_⟩:=h;unfold uY;generalize tS b d=A at*;generalize tT b d=B at*;clear g;by_cases x:B<A
 .go_in
  go_wp2_with (go_at_call 140;refine aH f.o ?_);go_ret;exact⟨rfl,rfl⟩
 .by_cases y:n<A
  .go_in
   go_wp2_with (go_at_call 140;refine aH f.o ?_);go_ret;exact⟨rfl,rfl⟩
  .by_cases z:B<n
   .go_in
    go_wp2_with (go_at_call 140;refine aH f.o ?_);go_ret;exact⟨rfl,rfl⟩
   .go_in
    go_wp2_with (go_at_call 140;refine aH f.o ?_);go_ret;exact⟨rfl,rfl⟩
def aab(c:aV)(s:Int)(w:ae)(j:c.ok w)(k:c.bd):aj prog 132 #[c.val,(s:Int)] w λe w'=>∃v,e=ax v/\mI w w' v (mM c.cuts c.words s)/\ai w w w':=by
 have⟨u,n⟩:=aD (w.alloc (aB c.cells.toArray 25 (0,0)));have⟨p,K,q⟩:=aV.box n;have f:=j.below q.aJ;have t:=au (Z_ c.cv c.wv c.cuts c.words s u f.rc f.rw' (by have:=k.cu;omega) (by have:=k.wo;omega) j.ws);have⟨R,A⟩:=aD (mM c.cuts c.words s);rw[<-A]at t⊢;clear A j f k;obtain⟨B,C,x,E,a,b,g,h,aS,i,first,l,d,net⟩:=c;have H:=au (show u=w.alloc (aB #[B,C,a,b,g,h,aS,i,first,l,d,net] 25 (0,0))from n);have L:=p 0 _ rfl;have M:=p 1 _ rfl;simp only at t;have G:=au q.aJ;clear n q p
 show aj prog 132 #[aG #[B,C,a,b,g,h,aS,i,first,l,d,net],an ar s] w _
 go_in;go_upto_region 1 with fail
 rw[<-H.o];go_wp2_with fail
 refine t.m ?_;rintro e z ⟨r,rfl,y,F⟩;have⟨I,J⟩:=aK (y.mono G.o.size) (G.o.trans (F.mono G.o.size));obtain⟨N,rc,rfl,_⟩:=y.len;clear y F;go_wp2;go_ret;exact⟨_,rfl,I.o,J.o⟩
def qq(a:Int)(n:Nat):Nat:=((IntKind.u64.wrap a).tmod (n:Int)).toNat
def oE(b y:Int):Int:=bits .xor .u8 b ((IntKind.u64.wrap (1+(IntKind.u64.wrap y).tmod 255))%256)
def OT(a:Int)(n:Nat)(h:0<n):0<=(IntKind.u64.wrap a).tmod (n:Int)/\(IntKind.u64.wrap a).tmod (n:Int)<n:=by
 have:IntKind.u64.wrap a=a%18446744073709551616:=by rfl
 rw[this,Int.tmod_eq_emod_of_nonneg (Int.emod_nonneg _ (by omega))];exact⟨Int.emod_nonneg _ (by omega),Int.emod_lt_of_pos _ (by omega)⟩
def TJ{p n E cap:Nat}{F next:Int}{g:List GM}{i:Nat}(h:sw w p (some n) (av (some ⟨n,E,none⟩) g.length cap) F next g)(H:i<g.length){x:GV}{j Z fc:Nat}(B:g.getD i ()=⟨x,av (some ⟨j,Z,none⟩) x.fr.length fc,some j⟩)
 (h0:0<x.fr.length) (I:x.sp=false) (a y:Int):
 aj prog 70 #[p,(i:Int),a,y] w λe w'=>e=ax (aw true)/\qq a x.fr.length<x.fr.length/\w'=((w.setCell ⟨j,Z+qq a x.fr.length,none⟩ (.int .u8 (oE (x.fr.getD (qq a x.fr.length) 0) y))).setCell ⟨n,E+i*5+4,none⟩ (aw true)):=by
 have J:=isC h i;rw[show qm g.length i=true by unfold qm;simp;omega]at J;have hp:=az h.c;have c2:=aF h.c 2 rfl;have⟨gb',off',cap',K,L,q,r⟩:=h.s.cell (by decide) i H;simp only[bA]at K;subst K;simp only[bG,bA,dr,et,bK]at L;obtain⟨rfl,rfl⟩:=L;obtain⟨g1,g2,g3,k,sp⟩:=x;simp only at h0 I B;subst I;have w3:=r 3 (av (some ⟨j,Z,none⟩) k.length fc) (by decide) (by rw[oh g i 3 H (by decide),B];rfl);have w4:=r 4 (aw false) (by decide) (by rw[oh g i 4 H (by decide),B];rfl);obtain⟨w3,f3⟩:=w3;obtain⟨w4,f4⟩:=w4;have i1:(0:Int)<=(i:Int):=by omega
 have i2:(i:Int)<(g.length:Int):=by omega
 have l1:k≠[]:=by intro e;rw[e]at h0;simp at h0
 have ht:=OT a k.length h0;obtain⟨b,M⟩:∃b:Nat,(IntKind.u64.wrap a).tmod (k.length:Int)=(b:Int):=⟨((IntKind.u64.wrap a).tmod (k.length:Int)).toNat,by omega⟩
 have u:b<k.length:=by omega
 have q1:(0:Int)<=(b:Int):=by omega
 have q2:(b:Int)<(k.length:Int):=by omega
 have l:=h.f (g.getD i ()) (by simp[aU,H]);rw[B]at l;have⟨_,_,_,_,hl⟩:=l.len;simp only at hl;unfold maxLen at hl;have⟨fb',fo',fc',N,O,hfl,P⟩:=l.cell (by decide) b u;simp only[bA]at N;subst N;simp only[bG,bA,dr,et,bK]at O;obtain⟨rfl,rfl⟩:=O;have⟨b0,v⟩:=aD (k.getD b 0);have⟨x0,xf⟩:=P 0 (.int .u8 b0) (by decide) (by simp[lJ,u,v,aU]);simp only[Nat.mul_one,bM]at x0 xf;have HB0:=au v;have⟨n1,n2⟩:=Jj h;have Q:=h.d;simp only[dG,ji,List.nodup_append]at Q;obtain⟨hd1,hd2,hd3,T⟩:=Q;have m:g.getD i ()∈g:=by simp[aU,H]
 have z:j∈g.filterMap GM.fb:=List.mem_filterMap.2 ⟨_,m,by rw[B]⟩;have U:j≠n:=λe=>T n (by simp) j z e.symm
 have hfp:j≠p:=λe=>n2 (e▸z)
 have⟨zv,V⟩:=aD (oE b0 y);have⟨t,A⟩:=aD (w.setCell ⟨j,Z+b,none⟩ (.int .u8 zv));have C:aQ [j] w t:=A▸(aQ.refl _ _).setCell _ (by simp) _;have k2:=(cU (C.block p hp (by simpa using Ne.symm hfp))).trans c2;have k4:=(cU (C.block n q (by simpa using Ne.symm U))).trans w4;have kf:=(World.frozen?_of_block (C.block n q (by simpa using Ne.symm U))).trans f4;have hpt:=bP hp C.size;have hgt:=bP q C.size;have⟨W,X⟩:=aK A V;have Y:qq a k.length=b:=by unfold qq;rw[M];simp
 have D7:=au Y;clear v P r l B ht n1 n2 hd1 hd2 hd3 T m z V A C Y h;go_in;go_wp2_with fail
 refine aH J ?_;go_upto_region 5 with fail
 generalize hG:World.setCell w _ _=G;obtain rfl:G=t:=by rw[<-hG,W.o,X.o];rfl
 clear hG;go_wp2_with fail
 go_ret;refine⟨rfl,?_⟩;rw[D7.o,<-HB0.o,<-X.o,<-W.o];exact⟨u,rfl⟩
def qV(L:List GV)(i:Int):Bool:=qm L.length i&&(!(L.getD i.toNat ()).fr.isEmpty&& !(L.getD i.toNat ()).sp)
def GV.spoilt(x:GV)(a y:Int):GV:=x.turn (qq a x.fr.length) (oE (x.fr.getD (qq a x.fr.length) 0) y)
def sL(L:List GV)(i a y:Int):List GV:=if qV L i then L.set i.toNat ((L.getD i.toNat ()).spoilt a y)else L
def W7{p:Nat}{g:Option Nat}{v:ah}{o next:Int}{b:List GM}(h:sw w p g v o next b)(i a y:Int)(j:qV (b.map GM.g) i=false):
 aj prog 70 #[p,i,a,y] w λe w'=>e=ax (aw false)/\w=w':=by
 have d:=isC h i;unfold qV at j;rw[cr]at j;cases hi:qm b.length i
 .rw[hi]at d
  clear j h;go_in;go_wp2_with fail
  refine aH d ?_;go_wp2;go_ret;exact⟨rfl,rfl⟩
 .rw[hi]at d j
  obtain⟨k,rfl,q⟩:=rM hi;have r:(b.map GM.g).getD k ()=(b.getD k ()).g:=by simp[aU,q]
  simp only[gE,r,Bool.true_and]at j;obtain⟨G,A,B,rfl,rfl,C,m⟩:=h.s.cell (by decide) k q;have H:=aF h.c 2 rfl;have t:=h.f (b.getD k ()) (by simp[aU,q]);have E:=(m 3 (b.getD k ()).fv (by decide) (by rw[oh b k 3 q (by decide)];rfl)).1;have I:=(m 4 (aw (b.getD k ()).g.sp) (by decide) (by rw[oh b k 4 q (by decide)];rfl)).1;have⟨J,K,u,_,x⟩:=t.len;rw[u]at E;unfold maxLen at x;have L:(0:Int)<=(k:Int):=by omega
  have M:(k:Int)<(b.length:Int):=by omega
  generalize(b.getD k ()).g.fr=fr at*;generalize(b.getD k ()).g.sp=sp at*;clear m t u r h hi;by_cases n:fr=[]
  .subst n
   go_in;go_wp2_with fail
   refine aH d ?_;go_wp2;go_ret;exact⟨rfl,rfl⟩
  .have z:sp=true:=by
    cases fr with
    |nil=>exact bL rfl n
    |cons a l=>simpa using j
   subst z;have F:((fr.length:Int)==0)=false:=by
    cases fr with
    |nil=>exact bL rfl n
    |cons a l=>simp;omega
   clear j;go_in;go_wp2_with fail
   refine aH d ?_;go_wp2;go_ret;exact⟨rfl,rfl⟩
def Qq(a:List GM)(k:Nat)(m:GM):(a.set k m).map GM.g=(a.map GM.g).set k m.g:=by rw[List.map_set]
def aac{B:Nat}{F:List Nat}{p:Nat}{j next:Int}{L:List GV}(h:NF B F w p j next L)(i a y:Int):
 aj prog 70 #[p,i,a,y] w λe w'=>e=ax (aw (qV L i))/\NF B F w' p j next (sL L i a y)/\ai B w w'/\Kept F w w':=by
 have H:=h;obtain⟨g,v,c,q,rfl,T,r,hF⟩:=h;cases hb:qV (c.map GM.g) i
 .refine(W7 q i a y hb).mono λe w' ⟨G,I⟩=>⟨G,?_⟩
  subst I;unfold sL;rw[hb];exact⟨H,aO _ _,λx _=>rfl⟩
 .have d:=hb
  unfold qV at d;rw[cr]at d;simp only[cV]at d;obtain⟨W,o,t⟩:=d;obtain⟨k,rfl,u⟩:=rM W;have z:(c.map GM.g).getD k ()=(c.getD k ()).g:=by simp[aU,u]
  simp only[gE,z]at o t;have J:=q.f (c.getD k ()) (by simp[aU,u]);obtain⟨K,X,Y,rfl,rfl,Z,hcl⟩:=q.s.cell (by decide) k u;have U:0<(c.getD k ()).g.fr.length:=by
   cases hq:(c.getD k ()).g.fr with
   |nil=>rw[hq]at o;simp at o
   |cons a l=>simp
  have⟨M,fo,fc,N,O,_,_⟩:=J.cell (by decide) 0 U;have V:c.getD k ()=⟨(c.getD k ()).g,av (some ⟨M,fo,none⟩) (c.getD k ()).g.fr.length fc,some M⟩:=by
   rw[<-N,<-O]
  refine(TJ q u V U (by simpa using t) a y).mono λe w' ⟨G,A,I⟩=>⟨G,?_⟩
  have⟨C,E,⟨P,Q⟩,m⟩:=q.TB u V _ A (oE ((c.getD k ()).g.fr.getD (qq a (c.getD k ()).g.fr.length) 0) y);rw[<-I]at C E;have n:∀x∈[M,K],x∈dG p (some K) c:=λx b=>by
   simp only[bQ,ez,or_false]at b;obtain rfl|rfl:=b
   .exact P
   .exact Q
  refine⟨⟨some K,_,_,C,?_,λx b=>T x (by rw[<-m];exact b),bD r E.size,λx b=>⟨bP (hF x b).1 E.size,λe=>(hF x b).2 (by rw[<-m];exact e)⟩⟩,E.below (λx b=>T x (n x b)) r,Kept.dC E (λx b=>(hF x b).1) (λx b e=>(hF x b).2 (n x e))⟩;unfold sL;rw[hb,aI rfl,Qq,gE,z];rfl
end Go.Proofs.YtjpnlfpompnpkaaGreat
