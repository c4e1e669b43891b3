import Derived.Deep.OwnRows
import Derived.Laws.EntriesVeiled
import Derived.Lib.SlBytesConst
import Derived.Test.YtjpnlfpompnpkaaGreatP07
import Derived.Test.YtjpnlfpompnpkaaGreatP09
import Derived.Test.YtjpnlfpompnpkaaGreatP10
import Derived.Test.YtjpnlfpompnpkaaGreatP12
import Derived.Test.YtjpnlfpompnpkaaGreatP13
namespace Go.Proofs.YtjpnlfpompnpkaaGreat
open Go.RowKit Go.Proofs.Tryz
open Go.Value renaming int->an,slice->av,bool->aw,string->aA,tuple->aM,pointer->aL,agg->aG
open Go.IntKind renaming i64->ar
open Go.Ending renaming returned->ax
open Go.Obj renaming cells->aB
open Go renaming World->ae,Value->ah,Calls->aj,Ending->ak
open Go.RowKit renaming Below->ai
set_option maxRecDepth 100000
set_option linter.all false
set_option maxHeartbeats 2000000
open Go.ChangeMaps mX
def vu:∀{a b c:er},Lib.compareBytes a b<0->Lib.compareBytes b c<0->Lib.compareBytes a c<0
 | [],[],c,h,_=>by simp[Lib.compareBytes]at h
 | [],_::_,[],_,h=>by simp[Lib.compareBytes]at h
 | [],_::_,_::_,_,_=>by simp[Lib.compareBytes]
 |_::_,[],_,h,_=>by simp[Lib.compareBytes]at h
 |_::_,_::_,[],_,h=>by simp[Lib.compareBytes]at h
 |x::a,y::b,z::c,f,d=>by
  simp only[Lib.compareBytes]at f d⊢;by_cases j:x<y
  .by_cases g:y<z
   .have:x<z:=UInt8.lt_trans j g
    rw[aI this];decide
   .rw[aC g]at d
    by_cases i:z<y
    .rw[aI i]at d;simp at d
    .have e:y=z:=by
      have f:=UInt8.not_lt.1 i;have d:=UInt8.not_lt.1 g;exact UInt8.le_antisymm f d
     rw[<-e,aI j];decide
  .rw[aC j]at f
   by_cases k:y<x
   .rw[aI k]at f;simp at f
   .rw[aC k]at f
    have e:=UInt8.le_antisymm (UInt8.not_lt.1 k) (UInt8.not_lt.1 j);subst e;by_cases g:x<z
    .rw[aI g];decide
    .rw[aC g]at d⊢
     by_cases i:z<x
     .rw[aI i]at d;simp at d
     .rw[aC i]at d⊢
      exact vu f d
def re{d:Type}{lt:d->d->Bool}(f:∀a b c,lt a b=true->lt b c=true->lt a c=true):∀{l:List d},kL lt l=true->l.Pairwise λa b=>lt a b=true
 | [],_=>List.Pairwise.nil
 | [a],_=>List.pairwise_singleton _ _
 |a::b::l,h=>by
  simp only[kL,cV]at h;have g:=re f h.2;refine List.pairwise_cons.2 ⟨λc e=> ?_,g⟩;obtain rfl|e:=List.mem_cons.1 e
  .exact h.1
  .exact f a b c h.1 ((List.pairwise_cons.1 g).1 c e)
def rR{ws:List ByteArray}(h:fx ws=0):ws.length<=60/\(∀s∈ws,mQ s.data.toList=true)/\xL (ws.map (·.data.toList)):=by
 unfold fx at h;split at h
 .cases h
 split at h
 .cases h
 split at h
 .cases h
 rename_i l f g;simp only[Bool.not_eq_false]at f g;refine⟨by omega,λs i=>by simpa using List.all_eq_true.1 f s i,?_⟩;unfold xL;rw[List.pairwise_map];refine(re (lt:=Tr) (λa b c d e=> ?_) g).imp λ{a b} d=>d
 have j:Lib.compareBytes a.data.toList b.data.toList<0:=of_decide_eq_true d;have k:Lib.compareBytes b.data.toList c.data.toList<0:=of_decide_eq_true e;exact decide_eq_true (vu j k)
def rf(B:Nat)(w:ae)(p:Nat)(ns:List gO):Prop:=∃g v ms,jm w p g v ms/\ms.map dP.n=ns/\B<=p/\∀x∈pO p g ms,p<=x
variable{w:ae}{p:Nat}
def rf.lt{B:Nat}{ns:List gO}(h:rf B w p ns):p<w:=by
 obtain⟨g,v,b,a,_⟩:=h;exact az a.c
def XL{q b:Nat}{g:Option Nat}{v:ah}{ms:List dP}{c:List er}(h:mh w q p b g v ms c):∀x∈pO p g ms,p<=x:=by
 intro x a;have e:=h.o1;have f:=h.o2;simp only[pO,bQ,dJ,mF,eZ]at a;obtain rfl|a|⟨m,d,a⟩:=a
 .exact aP _
 .have:=h.o3 x a
  omega
 .have:=h.o4 m d x a
  omega
def rf.below{B:Nat}{w':ae}{ns:List gO}(h:rf B w p ns)(a:ai w w w'):rf B w' p ns:=by
 obtain⟨g,v,b,c,d,e⟩:=h;exact⟨g,v,b,c.bH (ch a) (by simp),d,e⟩
def rf.old{B:Nat}{w':ae}{ns:List gO}(h:rf B w p ns){S:List Nat}(b:aQ S w w')(c:∀x∈S,x<p):rf B w' p ns:=by
 obtain⟨g,v,d,f,i,a⟩:=h;exact⟨g,v,d,f.bH b (λx j e=>by have:=a.2 x j;have:=c x e;omega),i,a⟩
def AQ(ws:List ByteArray)(w:ae)(e:ak)(w':ae):Prop:=∃p,e=ax (aM #[aL (some ⟨p,0,none⟩),an ar 0])/\rf w w' p (eO (ws.map (·.data.toList)))/\ai w w w'
def Up{l:List er}{n:Nat}(h:∀y∈l,y.length<=n):tb l<=n*l.length:=by
 induction l with
 |nil=>simp[tb]
 |cons a l b=>
  rw[pM,cG,Nat.mul_add];have:=h a (by simp);have:=b λy c=>h y (by simp[c])
  omega
def O9(v:ah)(ws:List ByteArray)(w:ae)(h:aT oR 1 w v ws)(c:∀s∈ws,s.size<=1000)(d:fx ws≠0):
 aj prog 159 #[v] w λe w'=>e=ax (aM #[aL none,an ar (fx ws)])/\ai w w w':=by
 have f:=au (My v ws w h c);obtain⟨a,g,rfl,k,b,_⟩:=h;have l:(fx ws !=0)=true:=by simpa using d
 generalize fx ws=gw at*;go_in;go_wp2_with fail
 refine aN f.o ?_;intro y i;have j:=au i;go_wp2;go_ret2;exact⟨rfl,j.o⟩
def JZ(v:ah)(ws:List ByteArray)(w:ae)(h:aT oR 1 w v ws)(hs:∀s∈ws,s.size<=1000)(hg:fx ws=0):
 aj prog 159 #[v] w (AQ ws w):=by
 have⟨HG,qH⟩:=aK (My v ws w h hs) h;obtain⟨a,H,rfl,M,hcap,N⟩:=h;unfold maxLen at M;have⟨w60,O,r⟩:=rR hg;rw[hg]at HG;have g:∀y∈ws.map (·.data.toList),y.length<=48:=λy A=>by
  obtain⟨s,hs,rfl⟩:=List.mem_map.1 A;exact nh (O s hs)
 have htb:=Up g;rw[cr]at htb;have B:∀x k c,Value.slice a ws.length H=av (some x) k c->0<ws.length->x.block<w.heap.size:=λx k c e l=>by
  obtain⟨b,off,rfl,n,_⟩:=N 0 l;simp only[bG,bA]at e;obtain⟨rfl,_⟩:=e;exact n
 have C:=au (show∀y p,rf w y p (eO (ws.map (·.data.toList)))->ai w w y->AQ ws w (ax (aM #[aL (some ⟨p,0,none⟩),an ar 0])) y fromλy p h1 h2=>⟨p,rfl,h1,h2⟩);generalize AQ ws w=Q at*;have⟨HS,HL,P⟩:=aX r g B;clear hs hg O r g N B;have hmm:= @run_makeMap prog;go_in;go_wp2_with fail
 refine aN HG.o ?_;intro y A;have⟨u0,f⟩:=aD ((y.alloc (aB #[()] 306 (0,0))).alloc (.map #[] 0));have⟨m1,m2,mg,ml⟩:=rZ f;have⟨u,hu⟩:=aD (u0.alloc (aB #[y.heap.size,.map (some (y.heap.size+1))] 330 (0,0)));have⟨b1,bg,bl⟩:=dt hu;have T:u0.heap.size=y.heap.size+2:=by rw[f];simp
 rw[T]at b1 bl;have U:=bg.at m1 (by simp);have E:nB u (y.heap.size+1) (O5 []) 0:=by
  have l:nB u0 (y.heap.size+1) (λ_=>none) 0:=by
   have:=nB.made (y.alloc (aB #[()] 306 (0,0)));rw[<-f]at this;simpa using this
  have e:(λ_=>none:er->Option Int)=O5 []:=by funext z;simp[O5]
  rw[e]at l;exact l.bH bg (by simp)
 have F:mh u (y.heap.size+2) y (y.heap.size+1) none () [] []:=⟨b1,⟨U,Seg.nil _ _ _,by simp,by simp,by simp⟩,E,by omega,by omega,by simp,by simp,rfl⟩;have G:=au F;have V:ai y y u:=by rw[hu,f];exact((((aO _ _).alloc (aP _) _).alloc (by simp) _).alloc (by simp;omega) _)
 have d:=au (A.trans (V.mono A.size));have hU:u=(((y.alloc (aB #[()] 306 (0,0))).alloc (.map #[] 0)).alloc (aB #[y.heap.size,.map (some (y.heap.size+1))] 330 (0,0))):=by rw[hu,f]
 have HU:=au hU;have X:=A.size;have cq:=aF b1 0 rfl;have cp:=aF U 0 rfl;have fp:=bB U 0;have HP:=au U;clear f hu hU m1 m2 mg ml bg b1 E F V U A T;go_upto_region 5 with fail
 rw[<-HU.o];have⟨p,I⟩:=aD y.heap.size;rw[<-I]at G cq cp fp HP X bl;rw[<-I];clear I;clear hmm;have pl:p<u.heap.size:=by omega
 by_cases l:ws.length=0
 .have he:ws.map (·.data.toList)=[]:=by rw[List.map_eq_nil_iff];exact List.length_eq_zero_iff.1 l
  have n:eO (ws.map (·.data.toList))=[⟨false,[]⟩]:=by rw[he];rfl
  have J:=au n;have b0:((ws.length:Int)==0)=true:=by simp[l]
  have q:rf w ((u.setCell ⟨p,0,none⟩ (av (some ⟨u,0,none⟩) 1 1)).alloc (aB #[aw false,()] 308 (0,0))) p [⟨false,[]⟩]/\ai w w ((u.setCell ⟨p,0,none⟩ (av (some ⟨u,0,none⟩) 1 1)).alloc (aB #[aw false,()] 308 (0,0))):=by
   have⟨t,ht⟩:=aD (u.setCell ⟨p,0,none⟩ (av (some ⟨u,0,none⟩) 1 1));have Y:aQ [p] u t:=by rw[ht];exact(aQ.refl _ _).setCell _ (by simp) _
   have hts:t.heap.size=u.heap.size:=by rw[ht];simp[World.setCell]
   have hpt:t.heap[p]? =some (aB #[av (some ⟨u,0,none⟩) 1 1] 306 (0,0)):=by rw[ht];simpa using aE (i:=0) HP.o (av (some ⟨u,0,none⟩) 1 1)
   rw[<-ht];have⟨W,hW⟩:=aD (t.alloc (aB #[aw false,()] 308 (0,0)));have⟨k1,k2,k3⟩:=dt hW;rw[<-hW];rw[hts]at k1;refine⟨⟨some u,av (some ⟨u,0,none⟩) 1 1,[SA],⟨k2.at hpt (by simp),?_,λm M=> ?_,λb n=>by simp at n;omega,λm M x hx=> ?_⟩,rfl,by omega,λx hx=>by simp[pO,SA]at hx;omega⟩,?_⟩
   .refine⟨rfl,.inr ⟨u,0,1,_,rfl,rfl,k1,by decide,by decide,by simp,λj hj=> ?_⟩⟩
    match j,hj with
    |0,_=>rfl
    |1,_=>rfl
   .rw[List.mem_singleton.1 M];exact Seg.nil _ _ _
   .rw[List.mem_singleton.1 M]at hx;cases hx
   .exact(d.o.trans (Y.below (by simp;omega) d.o.size)).trans (k2.aJ.mono (bD d.o.size Y.size))
  have HF:=au (C.o _ p (J.o▸q.1) q.2);clear he n q l;go_wp2
  go_simp
  exact HF.o
 .have K:ws.map (·.data.toList)≠[]:=by simp;intro e;rw[e]at l;simp at l
  have Z:xj u p (p+1) none (av a ws.length H) (ws.map (·.data.toList)):=⟨QE (qH.o.below d.o),λx k c e=>by
   have h1:=P.o x k c e (by omega);have h2:=d.o.size;exact⟨by omega,by omega,by omega,by simp⟩⟩
  have HN:=au (aeo 100 u ⟨[],[]⟩ (ws.map (·.data.toList)) (av a ws.length H) (p+2) p (p+1) none () [] HS.o K (λy A=>by have:=HL.o y A;omega) (by simp;omega) (by simp;omega) Z G.o rfl);have hbv:(dS 100 ⟨[],[]⟩ (ws.map (·.data.toList))).1.nodes=eO (ws.map (·.data.toList)):=by
   unfold eO;rw[aC (by simpa using K)]
  have J:=au hbv;have b0:((ws.length:Int)==0)=false:=by rw[j7];omega
  clear K Z hbv l;go_wp2_with fail
  refine HN.m ?_;rintro e z ⟨g',v',ms',rfl,n,L,hg',Y,_⟩;rw[J.o]at L;have hq:=n.bq;have cz:=aF hq 0 rfl;have HF:=au (C.o z p ⟨g',v',ms',n.gr,L,X,XL n⟩ (d.o.trans (Y.below (by simp;omega) d.o.size)));clear n L hg' Y hq cq cp fp;go_wp2;exact HF.o
variable{g:Option Nat}
def Uq{v:ah}{ms:List dP}(h:jm w p g v ms):aj prog 178 #[p] w λe w'=>e=ax (ms.length:Int)/\w=w':=by
 obtain⟨a,c,rfl,_⟩:=h.s.len;have b:=h.c;have d:=aF b 0 rfl;clear h b;go_in;go_wp2;go_ret;exact⟨rfl,rfl⟩
def mj(ms:List dP)(n:Int):dP:=if 0<=n/\n<ms.length then ms.getD n.toNat ()else SA
def vv{g:Nat}{a:Bool}{b:Option Addr}{n c:Nat}(h:w.heap[g]? =some (aB #[aw a,av b n c] 308 (0,0))):(loadVar 308 ⟨g,0,none⟩).run prog w=.ok (aG #[aw a,av b n c]) w:=
 run_loadVar_row w g 308 308 _ (0,0) _ h underlying308 rfl (by kernel_rfl)
def iy(L:List dP)(k j:Nat)(b:k<L.length)(f:j<2):(xM L)[k*2+j]? =(L.getD k ()).cells[j]? :=by
 induction L generalizing k with
 |nil=>simp at b
 |cons a l c=>
  have e:xM (a::l)=a.cells++xM l:=by simp[xM]
  have d:a.cells.length=2:=rfl;cases k with
  |zero=>
   rw[e,Nat.zero_mul,eJ,gZ (by omega)];rfl
  |succ k=>
   rw[e,g_ (by omega),d,show(k+1)*2+j-2=k*2+j by omega,c k (by simpa using b)];rfl
def aez{v:ah}{ms:List dP}(h:jm w p g v ms)(n:Int):aj prog 188 #[p,(n:Int)] w λe w'=>e=ax (aG #[aw (mj ms n).n.fin,(mj ms n).ev])/\ai w w w':=by
 have u:=au (λ(y:ae) (A:ai w w y)=>Uq (h.bH (ch A) (by simp)));have B:=az h.c;by_cases q:0<=n/\n<ms.length
 .obtain⟨x,C⟩:=q
  obtain⟨k,rfl⟩:∃k:Nat,n=k:=⟨n.toNat,by omega⟩
  have t:k<ms.length:=by omega
  have j:mj ms (k:Int)=ms.getD k ():=by unfold mj;rw[aI ⟨x,C⟩,gE]
  obtain⟨b,E,F,rfl,rfl,G,d⟩:=h.s.cell (by decide) k t;have i:=d 0 (aw (ms.getD k ()).n.fin) (by decide) (iy ms k 0 t (by decide));have l:=d 1 (ms.getD k ()).ev (by decide) (iy ms k 1 t (by decide));simp only[bM]at i;have L:=i.1;have H:=l.1;rw[j];have⟨I,J,m,_⟩:=Seg.len (show Seg w 303 2 _ (ms.getD k ()).ev _ _ from h.r _ (bh ms k t));rw[m]at H⊢;have z:=h.c;have M:=aF z 0 rfl;generalize(ms.getD k ()).n.fin=f at*;generalize(ms.getD k ()).n.bO.length=el at*;have N:¬(k:Int)<0:=by omega
  have K:¬(ms.length:Int)<=(k:Int):=by omega
  clear h j d i l m z;go_in;go_wp2_with (go_at_call 178;refine aH (u.o _ ((aO _ _).alloc (aP _) _)) ?_);refine fS (dV rfl rfl (vv (a:=f) (b:=I) (n:=el) (c:=J) (a_ _ _))) rfl ?_;exact⟨rfl,(aO _ _).alloc (aP _) _⟩
 .have j:mj ms n=SA:=by unfold mj;rw[aC q]
  rw[j];unfold SA;simp only;clear h j;by_cases x:n<0
  .clear q
   go_in;go_wp2_with fail
   refine fS (dV rfl rfl (vv (a:=false) (b:=none) (n:=0) (c:=0) (a_ _ _))) rfl ?_;exact⟨rfl,(aO _ _).alloc (aP _) _⟩
  .have K:(ms.length:Int)<=n:=by omega
   clear q;go_in;go_wp2_with (go_at_call 178;refine aH (u.o _ ((aO _ _).alloc (aP _) _)) ?_);refine fS (dV rfl rfl (vv (a:=false) (b:=none) (n:=0) (c:=0) (a_ _ _))) rfl ?_;exact⟨rfl,(aO _ _).alloc (aP _) _⟩
def QK(f:Bool)(ev:ah)(w:ae):(Instr.field 308 (aG #[aw f,ev]) 0).run prog w=.ok (aw f) w:=by kernel_rfl
def Ur(f:Bool)(ev:ah)(w:ae):(Instr.field 308 (aG #[aw f,ev]) 1).run prog w=.ok ev w:=by kernel_rfl
def Us{v:ah}{ms:List dP}(h:jm w p g v ms)(n:Int):aj prog 179 #[p,(n:Int)] w λe w'=>e=ax (aw (mj ms n).n.fin)/\ai w w w':=by
 have b:=au (aez h n);generalize(mj ms n).n.fin=f at*;generalize(mj ms n).ev=ev at*;have d:=λw=>QK f ev w
 clear h;go_in;go_wp2_with fail
 refine aN b.o ?_;intro y a;have c:=au a;clear a;go_wp2;go_ret;exact⟨rfl,c.o⟩
def XM(l:List eY):∀u∈rO l,u.oneCell'=true:=by
 intro u a;simp only[rO,List.mem_flatMap]at a;obtain⟨x,_,b⟩:=a;simp only[bQ,ez,or_false]at b;rcases b with rfl|rfl<;>rfl
def XN{v:ah}{l:List eY}(h:Seg w 303 2 g v (rO l) l.length)(r:l.length<=1000000):
 aj prog 189 #[v] w λe w'=>∃a c,e=ax (av a l.length c)/\Own w 303 2 w' (av a l.length c) (rO l) l.length/\ai w w w':=by
 obtain⟨a,f,rfl,_,s⟩:=h.len;unfold maxLen at s;have k:=λW=>lF (P:=prog) W 271 303 a l.length f 0 0 underlying271
 cases a with
 |none=>
  have t:l.length=0/\f=0:=by
   obtain⟨_,⟨_,i,_⟩|⟨b,u,m,x,_,i,_⟩⟩:=h
   .simp only[bG,bK]at i
    exact⟨i.1,i.2⟩
   .simp at i
  obtain⟨y,rfl⟩:=t;have:l=[]:=List.length_eq_zero_iff.1 y;subst this;clear h k;have k:=λW=>lF (P:=prog) W 271 303 none 0 0 0 0 underlying271
  simp only[dx];go_in;go_wp2;go_ret;exact⟨_,_,rfl,World.ownsRow_nil _ _ _ _,aO _ _⟩
 |some a=>
  have⟨B,C,w',d,n,q⟩:=h.tW 271 underlying271 JL rfl (by decide) (XM l) r (by decide);have⟨j,z,A⟩:=aX d n q;clear h d n q;go_in;go_wp2_with (refine cE (by rfl) (.tmp 5) (.tmp 6) 271 (by rfl) _ _ _ w' (by rfl) (by rfl) (j.o _) ?_);go_ret;exact⟨_,_,rfl,z.o,A.o⟩
def Ut{v:ah}{ms:List dP}(h:jm w p g v ms)(n:Int):Seg w 303 2 (mj ms n).eb (mj ms n).ev (rO (mj ms n).n.bO) (mj ms n).n.bO.length:=by
 unfold mj;split
 .exact h.r _ (bh ms _ (by omega))
 .exact Seg.nil _ _ _
def O_{v:ah}{ms:List dP}(h:jm w p g v ms)(n:Int)(j:(mj ms n).n.bO.length<=1000000):aj prog 180 #[p,(n:Int)] w λe w'=>∃a c,e=ax (av a (mj ms n).n.bO.length c)/\Own w 303 2 w' (av a (mj ms n).n.bO.length c) (rO (mj ms n).n.bO) (mj ms n).n.bO.length/\ai w w w':=by
 have⟨q,r⟩:=aK (aez h n) (λ(y:ae) (b:ai w w y)=>XN ((Ut h n).bH (ch b) (by simp)) j);generalize(mj ms n).n.fin=f at*;generalize(mj ms n).ev=ev at*;generalize(mj ms n).n.bO=es at*;have u:=λw=>Ur f ev w
 clear h j;go_in;go_wp2_with fail
 refine aN q.o ?_;intro y b;have⟨d,i⟩:=aK (r.o y b) b;clear b;go_wp2_with fail
 refine d.m ?_;rintro e z ⟨a,c,rfl,k,l⟩;have⟨s,t⟩:=aK (Own.mono k i.o.size) (i.o.trans (l.mono i.o.size));clear k l;go_wp2;go_ret;exact⟨a,c,rfl,s.o,t.o⟩
def jc(L:List eY)(k:Nat)(b:k<L.length):(rO L)[k*2+0]? =some (.int .i32 (L.getD k ()).1)/\(rO L)[k*2+1]? =some (an ar (L.getD k ()).2):=by
 induction L generalizing k with
 |nil=>simp at b
 |cons a l c=>
  have e:rO (a::l)=[.int .i32 a.1,an ar a.2]++rO l:=by simp[rO]
  cases k with
  |zero=>rw[e];exact⟨rfl,rfl⟩
  |succ k=>
   have:=c k (by simpa using b);rw[e,show(k+1)*2+0=(k*2+0)+2 by omega,show(k+1)*2+1=(k*2+1)+2 by omega];exact this
def sT(a b:gO):Bool:=a.fin==b.fin&&a.bO==b.bO
def nL(xs ys:List gO):Bool:=decide (xs.length=ys.length)&&(List.range xs.length).all λi=>sT (xs.getD i ()) (ys.getD i ())
def J0{xs ys:List gO}{i:Nat}(h:i<xs.length)(a:sT (xs.getD i ()) (ys.getD i ())=false):nL xs ys=false:=by
 unfold nL;have:((List.range xs.length).all λi=>sT (xs.getD i ()) (ys.getD i ()))=false:=by
  rw[List.all_eq_false];exact⟨i,List.mem_range.2 h,by rw[a];decide⟩
 rw[this,Bool.and_false]
def Nc{xs ys:List gO}(a:xs.length=ys.length)(h:∀i,i<xs.length->sT (xs.getD i ()) (ys.getD i ())=true):nL xs ys=true:=by
 unfold nL;rw[cV];exact⟨decide_eq_true a,List.all_eq_true.2 λi b=>h i (List.mem_range.1 b)⟩
def QL{a b:List eY}{i:Nat}(h:i<a.length)(d:i<b.length)(c:a.getD i ()≠b.getD i ()):(a==b)=false:=by
 rw[j7];exactλe=>c (by rw[e])
def Uu{a b:List eY}(d:a.length=b.length)(h:∀i,i<a.length->a.getD i ()=b.getD i ()):(a==b)=true:=by
 rw[beq_iff_eq];refine List.ext_getElem d λi c e=> ?_
 have:=h i c;simpa[aU,c,e]using this
def aeA{w:ae}{p1 p2:Nat}{g1 g2:Option Nat}{v1 v2:ah}{f g:List dP}(h1:jm w p1 g1 v1 f)(h2:jm w p2 g2 v2 g)(hl1:∀m∈f,m.n.bO.length<=1000000)(hn1:f.length<=1000000):
 aj prog 164 #[p1,p2] w λe w'=>e=ax (aw (nL (f.map dP.n) (g.map dP.n)))/\ai w w w':=by
 have⟨H1,H2⟩:=aK h1 h2;obtain⟨a1,c1,rfl,_,hm1⟩:=h1.s.len;obtain⟨a2,c2,rfl,_,hm2⟩:=h2.s.len;unfold maxLen at hm1 hm2;have k1:w.cell? p1=some (av a1 f.length c1):=by have:=h1.c;simp[World.cell?,this]
 have k2:w.cell? p2=some (av a2 g.length c2):=by have:=h2.c;simp[World.cell?,this]
 have l1:=az h1.c;have l2:=az h2.c;have J:∀(ms:List dP) i,i<ms.length->(ms.map dP.n).getD i ()=(ms.getD i ()).n:=λms i E=>by simp[aU,E]
 have⟨HLF,HLT,Uv⟩:=aX (λi (E:i<f.length) (hi2:i<g.length) (hn:sT (f.getD i ()).n (g.getD i ()).n=false)=>J0 (xs:=f.map dP.n) (ys:=g.map dP.n) (i:=i) (by simpa using E) (by rw[J _ _ E,J _ _ hi2];exact hn)) (λ(hl:f.length=g.length) (h:∀i,i<f.length->sT (f.getD i ()).n (g.getD i ()).n=true)=>Nc (xs:=f.map dP.n) (ys:=g.map dP.n) (by simpa using hl) (λi E=>by rw[J _ _ (by simpa using E),J _ _ (by rw[cr]at E;omega)];exact h i (by simpa using E))) (show f.length≠g.length->nL (f.map dP.n) (g.map dP.n)=false fromλh=>by unfold nL;simp[h]);have⟨R,hR⟩:=aD (nL (f.map dP.n) (g.map dP.n));rw[<-hR]at HLF HLT Uv⊢;have HL1:=au hl1;clear h1 h2 J hR hl1;by_cases F:f.length=g.length
 rotate_left
 .have hb:((f.length:Int) !=(g.length:Int))=true:=by simp;omega
  have I:=au (Uv.o F);clear F;go_in;go_wp2_with fail
  go_quiet (fail);have L:=au (bo w nq).aJ;go_wp2;go_ret;exact⟨cA I.o.symm,L.o⟩
 have hb:((f.length:Int) !=(g.length:Int))=false:=by simp;omega
 have U:=au F;go_in;go_wp2_with fail
 go_quiet (fail);have hy:=(bo w nq).aJ;generalize World.drewN w nq=y at*;have j1:=(hy.cell (p:=⟨p1,0,none⟩) l1).trans k1;have HY:=au hy;clear hy k1 F hb;go_wp2_with fail
 go_loopw [26] (λi wr=>∃k:Nat,i=an ar k/\k<=f.length/\(∀j,j<k->sT (f.getD j ()).n (g.getD j ()).n=true)/\ai w w wr) (λi _=>f.length-(intOf i).toNat)
 case atStart=>exact⟨0,rfl,bz _,λj hj=>by omega,HY.o⟩
 case round=>
  obtain⟨k,rfl,hk,ha,M⟩:=hrel;have⟨HA,HW⟩:=aK ha M;by_cases H:k<f.length
  .have A:k<g.length:=by have:=U.o;omega
   have hg1:=H1.o.bH (ch M) (by simp);have hg2:=H2.o.bH (ch M) (by simp);have⟨b1,o1,cc1,_,e1,bl1,v⟩:=hg1.s.cell (by decide) k H;have⟨b2,o2,cc2,_,e2,bl2,x⟩:=hg2.s.cell (by decide) k A;simp only[bG,bK]at e1 e2;obtain⟨rfl,rfl⟩:=e1;obtain⟨rfl,rfl⟩:=e2;have V:=(v 0 (aw (f.getD k ()).n.fin) (by decide) (iy f k 0 H (by decide))).1;have x1:=(v 1 (f.getD k ()).ev (by decide) (iy f k 1 H (by decide))).1;have W:=(x 0 (aw (g.getD k ()).n.fin) (by decide) (iy g k 0 A (by decide))).1;have y1:=(x 1 (g.getD k ()).ev (by decide) (iy g k 1 A (by decide))).1;simp only[bM]at V W;have r1:Seg wr 303 2 (f.getD k ()).eb (f.getD k ()).ev (rO (f.getD k ()).n.bO) (f.getD k ()).n.bO.length:=hg1.r _ (bh f k H);have r2:Seg wr 303 2 (g.getD k ()).eb (g.getD k ()).ev (rO (g.getD k ()).n.bO) (g.getD k ()).n.bO.length:=hg2.r _ (bh g k A);have le1:=HL1.o _ (bh f k H);have HF:=au (HLF.o k H A);have HS:=au (show sT (f.getD k ()).n (g.getD k ()).n=true->∀j,j<k+1->sT (f.getD j ()).n (g.getD j ()).n=true fromλh j hj=>by
    by_cases e:j=k
    .rw[e];exact h
    .exact HA.o j (by omega))
   have⟨m1,Y⟩:=aD (f.getD k ());have⟨m2,Z⟩:=aD (g.getD k ());rw[<-Y]at V x1 r1 le1 HF HS;rw[<-Z]at W y1 r2 HF HS;have⟨ea1,ec1,hv1,_⟩:=r1.len;have⟨ea2,ec2,hv2,_,aeE⟩:=r2.len;unfold maxLen at aeE;rw[hv1]at x1 r1;rw[hv2]at y1 r2;obtain⟨⟨f1,l⟩,ev1,eb1⟩:=m1;obtain⟨⟨f2,q⟩,ev2,eb2⟩:=m2;simp only at V x1 r1 le1 HF HS W y1 r2 aeE;have⟨u,hu⟩:=aD ((wr.alloc (aB #[aw f1,av ea1 l.length ec1] 308 (0,0))).alloc (aB #[aw f2,av ea2 q.length ec2] 308 (0,0)));have⟨q1,q2,gg,gl⟩:=rZ hu;have⟨HU,Wq,Wl⟩:=aX hu q1 q2;have⟨c0,c1'⟩:=dk q1;have⟨d0,d1⟩:=dk q2;have⟨C,HR1,HR2⟩:=aX (M.trans (gg.aJ.mono M.size)) (r1.bH gg (by simp)) (r2.bH gg (by simp));have jw2:=(M.cell (p:=⟨p2,0,none⟩) l2).trans k2;have lw2:=bP l2 M.size;have gl0:wr.heap.size<u.heap.size:=by omega
   have z1:(0:Int)<=(k:Int):=by omega
   have z2:(k:Int)<(f.length:Int):=by omega
   have z3:(k:Int)<(g.length:Int):=by omega
   clear ha hg1 hg2 v x r1 r2 Y Z hv1 hv2 hu q1 q2 gg;go_upto_region 7 with fail
   rw[<-HU.o];have⟨X,hX⟩:=aD wr.heap.size;rw[<-hX]at Wq Wl c0 c1' d0 d1 gl gl0⊢;clear hX V x1 W y1 M jw2;by_cases z:f1=f2
   .by_cases N:l.length=q.length
    .obtain rfl:=z
     have z:f1=f1:=rfl;have be:((l.length:Int) !=(q.length:Int))=false:=by rw[bne_eq_false_iff_eq];omega
     have⟨HEE,HFF,W3⟩:=aX N z (λi (E:i<l.length) (hi2:i<q.length) (hn:l.getD i ()≠q.getD i ())=>HF.o (by unfold sT;have:=QL E hi2 hn;simp[this]));have HTE:=au (λ(h:∀i,i<l.length->l.getD i ()=q.getD i ())=>HS.o (by unfold sT;have:=Uu HEE.o h;simp[this,HFF.o]));clear z N;go_wp2_with fail
     obtain⟨wo,rfl⟩:= @aD ae wr;go_loopw [55] (λi wr=>∃j:Nat,i=an ar j/\j<=l.length/\(∀i,i<j->l.getD i ()=q.getD i ())/\ai u u wr) (λi _=>l.length-(intOf i).toNat)
     case atStart=>exact⟨0,rfl,bz _,λi E=>by omega,aO _ _⟩
     case round=>
      obtain⟨j,rfl,hj,O,B⟩:=hrel;have HAJ:=au O;by_cases P:j<l.length
      .have G:j<q.length:=by have:=HEE.o;omega
       have⟨eb,eo,ecc,_,e1,ebl,v⟩:=(HR1.o.bH (ch B) (by simp)).cell (by decide) j P;have⟨fb,fo,fcc,_,e2,fbl,x⟩:=(HR2.o.bH (ch B) (by simp)).cell (by decide) j G;simp only[bG,bK]at e1 e2;obtain⟨rfl,rfl⟩:=e1;obtain⟨rfl,rfl⟩:=e2;have V:=(v 0 _ (by decide) (jc l j P).1).1;have x1:=(v 1 _ (by decide) (jc l j P).2).1;have W:=(x 0 _ (by decide) (jc q j G).1).1;have y1:=(x 1 _ (by decide) (jc q j G).2).1;simp only[bM]at V W;have hq2:=(ch B).at Wl.o (by simp);have⟨t,ht⟩:=aD (wr.alloc (aB #[.int .i32 (l.getD j ()).1,an ar (l.getD j ()).2] 303 (0,0)));have⟨n1,n2,n3⟩:=dt ht;have⟨t0,t1⟩:=dk n1;have hq3:=n2.at hq2 (by simp);have ty:=aF hq3 1 rfl;have w0:=(n2.aJ.cell (p:=⟨fb,fo+j*2,none⟩) fbl).trans W;have w1:=(n2.aJ.cell (p:=⟨fb,fo+j*2+1,none⟩) fbl).trans y1;have⟨HT,QJ⟩:=aK ht (B.trans (n2.aJ.mono B.size));have⟨Q,HFJ⟩:=aK (C.o.trans (QJ.o.mono C.o.size)) (W3.o j P G);have HNJ:=au (show l.getD j ()=q.getD j ()->∀i,i<j+1->l.getD i ()=q.getD i ()fromλh i E=>by
        by_cases e:i=j
        .rw[e];exact h
        .exact HAJ.o i (by omega))
       generalize l.getD j ()=E1 at*;generalize q.getD j ()=E2 at*;obtain⟨a,b⟩:=E1;obtain⟨c,d⟩:=E2;simp only at V x1 t0 t1 w0 w1 HFJ HNJ HT;have z4:(0:Int)<=(j:Int):=by omega
       have z5:(j:Int)<(l.length:Int):=by omega
       have z6:(j:Int)<(q.length:Int):=by omega
       clear O B v x hq2 hq3 ht n1 n2 W y1;go_upto_region 12 with fail
       rw[<-HT.o];clear V x1;by_cases K:a=c
       .by_cases T:b=d
        .subst K T
         have HN:=au (HNJ.o rfl);go_quiet (fail);have L:=au (QJ.o.trans ((bo t nq).aJ.mono QJ.o.size));go_wp2;go_roundw
         case rel=>exact⟨j+1,by simp,by omega,HN.o,L.o⟩
         case measure=>simp[intOf];omega
        .subst K
         have hb1:(b==d)=false:=by simpa using T
         have I:=au (HFJ.o (by simpa using T));clear T;go_quiet (fail);have L:=au (Q.o.trans ((bo t nq).aJ.mono Q.o.size));go_wp2;go_ret;exact⟨cA I.o.symm,L.o⟩
       .have hb1:(a==c)=false:=by simpa using K
        have I:=au (HFJ.o (by simp[K]));clear K;go_quiet (fail);have L:=au (Q.o.trans ((bo t nq).aJ.mono Q.o.size));go_wp2;go_ret;exact⟨cA I.o.symm,L.o⟩
      .have⟨HN,L⟩:=aK (HTE.o λi E=>O i (by omega)) (C.o.trans (B.mono C.o.size))
       clear O B;go_wp2;go_roundw
       case rel=>exact⟨k+1,by simp,by omega,HN.o,L.o⟩
       case measure=>simp[intOf];omega
    .obtain rfl:=z
     have be:((l.length:Int) !=(q.length:Int))=true:=by rw[bne_iff_ne];omega
     have I:=au (HF.o (by
      unfold sT;have:(l==q)=false:=by rw[j7];exactλe=>N (by rw[e])
      simp[this]))
     clear N;go_wp2;go_ret;exact⟨cA I.o.symm,C.o⟩
   .have I:=au (HF.o (by unfold sT;simp[z]))
    cases f1<;>cases f2
    .exact bL rfl z
    .clear z
     go_wp2;go_ret;exact⟨cA I.o.symm,C.o⟩
    .clear z
     go_wp2;go_ret;exact⟨cA I.o.symm,C.o⟩
    .exact bL rfl z
  .have I:=au (HLT.o U.o λi E=>ha i (by omega))
   clear ha M;go_wp2;go_ret;exact⟨cA I.o.symm,HW.o⟩
def sC(f:List Int->Nat->Bool×List Int):List Int->List eY->Bool×List Int
 |st,[]=>(true,st)
 |st,e::l=>if(f st e.2.toNat).1=true then sC f (f st e.2.toNat).2 l else(false,(f st e.2.toNat).2)
def eK(ns:List gO):Nat->List Int->Nat->Bool×List Int
 |0,st,n=>if st.getD n 0=2 then(true,st)else(false,st)
 |f+1,st,n=>if st.getD n 0=2 then(true,st)else if st.getD n 0=1 then(false,st)else if(ns.getD n ()).fin=false/\(ns.getD n ()).bO=[]then(false,st)
  else if(sC (eK ns f) (st.set n 1) (ns.getD n ()).bO).1=true then(true,(sC (eK ns f) (st.set n 1) (ns.getD n ()).bO).2.set n 2)else(false,(sC (eK ns f) (st.set n 1) (ns.getD n ()).bO).2)
abbrev whF(x1 x3 x4:Nat):ah:=.func (Fn.func 182) #[] #[.pointer (some ⟨x1,0,none⟩),.pointer (some ⟨x3,0,none⟩),.pointer (some ⟨x4,0,none⟩)]
structure AR(w:ae)(x1 sb x3 x4 p:Nat)(g:Option Nat)(v:ah)(ms:List dP)(st:List Int):Prop where
 a1:w.heap[x1]? =some (aB #[p] 215 (0,0))
 a3:w.heap[x3]? =some (aB #[av (some ⟨sb,0,none⟩) ms.length ms.length] 43 (0,0))
 a4:w.heap[x4]? =some (aB #[whF x1 x3 x4] 287 (0,0))
 s:Seg w 3 1 (some sb) (av (some ⟨sb,0,none⟩) ms.length ms.length) (sI st) ms.length
 sl:st.length=ms.length
 gr:jm w p g v ms
 o:∀x∈pO p g ms,x<x1
 o1:x1<sb
 o2:sb<x3
 o3:x3<x4
 ok:∀m∈ms,∀e∈m.n.bO,0<=e.2/\e.2<ms.length
 nl:ms.length<=1000000
 el:∀m∈ms,m.n.bO.length<=1000000
def AR.bH{w w':ae}{b sb c d p:Nat}{g:Option Nat}{v:ah}{ms:List dP}{st:List Int}(h:AR w b sb c d p g v ms st)(a:aQ ([]:List Nat) w w'):AR w' b sb c d p g v ms st:=
 ⟨a.at h.a1 (by simp),a.at h.a3 (by simp),a.at h.a4 (by simp),h.s.bH a (by simp),h.sl,h.gr.bH a (by simp),h.o,h.o1,h.o2,h.o3,h.ok,h.nl,h.el⟩
def AR.put{w:ae}{b sb c d p:Nat}{g:Option Nat}{v:ah}{ms:List dP}{st:List Int}(h:AR w b sb c d p g v ms st)(n:Nat)(i:n<ms.length)(z:Int):AR (w.setCell ⟨sb,n,none⟩ (z:Int)) b sb c d p g v ms (st.set n z)/\aQ [sb] w (w.setCell ⟨sb,n,none⟩ (z:Int)):=by
 have a:aQ [sb] w (w.setCell ⟨sb,n,none⟩ (z:Int)):=(aQ.refl _ _).setCell _ (by simp) _;have k:=h.o1;have l:=h.o2;have m:=h.o3;refine⟨⟨a.at h.a1 (by simp;omega),a.at h.a3 (by simp;omega),a.at h.a4 (by simp;omega),?_,by rw[ds];exact h.sl,h.gr.bH a (λx f=>by have:=h.o x f;simp;omega),h.o,h.o1,h.o2,h.o3,h.ok,h.nl,h.el⟩,a⟩;have:=iw h.s (j:=n) (by omega) (z:Int);rw[eJ]at this;have e:sI (st.set n z)=(sI st).set n (z:Int):=by simp[sI,List.map_set]
 rw[e];exact this
def vw(r:Bool×List Int)(x1 sb x3 x4 p:Nat)(g:Option Nat)(v:ah)(ms:List dP)(w:ae)(e:ak)(w':ae):Prop:=
 e=ax (aw r.1)/\AR w' x1 sb x3 x4 p g v ms r.2/\aQ [sb] w w'
def aeH:∀(f:Nat) (w:ae) (Z sb N x4 p:Nat) (g:Option Nat) (v:ah) (ms:List dP) (st:List Int) (n:Nat) (dd:Int),dd=13-(f:Int)->f<=13->n<ms.length->AR w Z sb N x4 p g v ms st->
 aj prog 182 #[(n:Int),(dd:Int),Z,N,x4] w (vw (eK (ms.map dP.n) f st n) Z sb N x4 p g v ms w):=by
 intro f
 induction f with
 |zero=>
  intro w Z sb N x4 p g v ms st n dd O hf G h;have HI:=au h;obtain⟨va,vc,rfl,_,TA⟩:=h.gr.s.len;unfold maxLen at TA;have c1:w.cell? Z=p:=by have:=h.a1;simp[World.cell?,this]
  have cp:w.cell? p=some (av va ms.length vc):=by have:=h.gr.c;simp[World.cell?,this]
  have c3:w.cell? N=some (av (some ⟨sb,0,none⟩) ms.length ms.length):=by have:=h.a3;simp[World.cell?,this]
  have l3:=az h.a3;have ls:=h.s.lt sb rfl;have⟨b1,o1,cc1,_,e1,bl1,d⟩:=h.gr.s.cell (by decide) n G;simp only[bG,bK]at e1;obtain⟨rfl,rfl⟩:=e1;have n0:=(d 0 (aw (ms.getD n ()).n.fin) (by decide) (iy ms n 0 G (by decide))).1;have n1:=(d 1 (ms.getD n ()).ev (by decide) (iy ms n 1 G (by decide))).1;simp only[bM]at n0;have⟨b2,o2,cc2,hg2,e2,bl2,a⟩:=h.s.cell (by decide) n G;simp only[bG,bA,dr,bK,et]at e2;obtain⟨⟨rfl,rfl⟩,rfl⟩:=e2;have l:(sI st)[n*1+0]? =some (st.getD n 0:Int):=by
   have hl:=h.sl;simp[sI,aU,show n<st.length by omega]
  have s0:=(a 0 _ (by decide) l).1;have sf:=(a 0 _ (by decide) l).2;simp only[bM,Nat.mul_one,eJ]at s0 sf;have hr:Seg w 303 2 (ms.getD n ()).eb (ms.getD n ()).ev (rO (ms.getD n ()).n.bO) (ms.getD n ()).n.bO.length:=h.gr.r _ (bh ms n G);have I:(ms.map dP.n).getD n ()=(ms.getD n ()).n:=by simp[aU,G]
  have A:∀x,(ms.getD n ()).eb=some x->x≠sb:=λx hx=>by
   have h1:=h.o x (by simp only[pO,bQ,dJ,mF];exact .inr (.inr ⟨_,bh ms n G,hx⟩));have H:=h.o1;omega
  have q:=h.ok _ (bh ms n G);have t:=h.el _ (bh ms n G);have C:st.getD n 0=2->eK (ms.map dP.n) 0 st n=(true,st):=λe=>by unfold eK;rw[aI e]
  have F:st.getD n 0≠2->eK (ms.map dP.n) 0 st n=(false,st):=λe=>by unfold eK;rw[aC e]
  have⟨R,hR⟩:=aD (eK (ms.map dP.n) 0 st n);rw[<-hR]at C F⊢;have⟨HR2,HR1,HP⟩:=aX C F (show∀y b,R=(b,st)->ai w w y->vw R Z sb N x4 p g (av (some ⟨b1,o1,none⟩) ms.length vc) ms w (ax (aw b)) y fromλy b e hy=>⟨by rw[e],by rw[e];exact HI.o.bH (aQ.of_below hy),(ch hy).mono (by simp)⟩);have⟨ea,ec,K,_⟩:=hr.len;rw[K]at n1;generalize vw R Z sb N x4 p g (av (some ⟨b1,o1,none⟩) ms.length vc) ms w=Q at*;generalize(ms.getD n ()).n.fin=L at*;generalize(ms.getD n ()).n.bO.length=el at*;have q1:(0:Int)<=(n:Int):=by omega
  have q2:(n:Int)<(ms.length:Int):=by omega
  have q3:dd=13:=by simpa using O
  subst q3;clear O;have M:ai w w (w.alloc (aB #[aw L,av ea el ec] 308 (0,0))):=(aO _ _).alloc (aP _) _;have ue:=au M;by_cases H:st.getD n 0=2
  .rw[H]at s0
   have HF:=au (HP.o _ true (HR2.o H) ue.o);clear h d a hg2 l hr I A q t C F hR K M H;go_in;go_wp2;exact HF.o
  .have HF:=au (HP.o _ false (HR1.o H) ue.o)
   have hb2:(st.getD n 0==2)=false:=by simpa using H
   generalize st.getD n 0=sn at*;clear h d a hg2 l hr I A q t C F hR K M H;cases hb1:(sn==1)
   all_goals
    go_in;go_wp2;exact HF.o
 |succ f ih=>
  intro w Z sb N x4 p g v ms st n dd O hf G h;have HIH:=au ih;clear ih;have HI:=au h;obtain⟨va,vc,rfl,_,TA⟩:=h.gr.s.len;unfold maxLen at TA;have c1:w.cell? Z=p:=by have:=h.a1;simp[World.cell?,this]
  have cp:w.cell? p=some (av va ms.length vc):=by have:=h.gr.c;simp[World.cell?,this]
  have c3:w.cell? N=some (av (some ⟨sb,0,none⟩) ms.length ms.length):=by have:=h.a3;simp[World.cell?,this]
  have l3:=az h.a3;have ls:=h.s.lt sb rfl;have⟨b1,o1,cc1,_,e1,bl1,d⟩:=h.gr.s.cell (by decide) n G;simp only[bG,bK]at e1;obtain⟨rfl,rfl⟩:=e1;have n0:=(d 0 (aw (ms.getD n ()).n.fin) (by decide) (iy ms n 0 G (by decide))).1;have n1:=(d 1 (ms.getD n ()).ev (by decide) (iy ms n 1 G (by decide))).1;simp only[bM]at n0;have⟨b2,o2,cc2,hg2,e2,bl2,a⟩:=h.s.cell (by decide) n G;simp only[bG,bA,dr,bK,et]at e2;obtain⟨⟨rfl,rfl⟩,rfl⟩:=e2;have l:(sI st)[n*1+0]? =some (st.getD n 0:Int):=by
   have hl:=h.sl;simp[sI,aU,show n<st.length by omega]
  have s0:=(a 0 _ (by decide) l).1;have sf:=(a 0 _ (by decide) l).2;simp only[bM,Nat.mul_one,eJ]at s0 sf;have hr:Seg w 303 2 (ms.getD n ()).eb (ms.getD n ()).ev (rO (ms.getD n ()).n.bO) (ms.getD n ()).n.bO.length:=h.gr.r _ (bh ms n G);have I:(ms.map dP.n).getD n ()=(ms.getD n ()).n:=by simp[aU,G]
  have A:∀x,(ms.getD n ()).eb=some x->x≠sb:=λx hx=>by
   have h1:=h.o x (by simp only[pO,bQ,dJ,mF];exact .inr (.inr ⟨_,bh ms n G,hx⟩));have H:=h.o1;omega
  have q:=h.ok _ (bh ms n G);have t:=h.el _ (bh ms n G);have C:st.getD n 0=2->eK (ms.map dP.n) (f+1) st n=(true,st):=λe=>by unfold eK;rw[aI e]
  have F:st.getD n 0≠2->st.getD n 0=1->eK (ms.map dP.n) (f+1) st n=(false,st):=λe e1=>by unfold eK;rw[aC e,aI e1]
  have P:st.getD n 0≠2->st.getD n 0≠1->((ms.getD n ()).n.fin=false/\(ms.getD n ()).n.bO=[])->eK (ms.map dP.n) (f+1) st n=(false,st):=λe e1 e2=>by unfold eK;rw[aC e,aC e1,I,aI e2]
  have U:st.getD n 0≠2->st.getD n 0≠1->¬((ms.getD n ()).n.fin=false/\(ms.getD n ()).n.bO=[])->∀B,sC (eK (ms.map dP.n) f) (st.set n 1) (ms.getD n ()).n.bO=(true,B)->eK (ms.map dP.n) (f+1) st n=(true,B.set n 2):=λe e1 e2 B h=>by unfold eK;rw[aC e,aC e1,I,aC e2,h];rfl
  have V:st.getD n 0≠2->st.getD n 0≠1->¬((ms.getD n ()).n.fin=false/\(ms.getD n ()).n.bO=[])->∀B,sC (eK (ms.map dP.n) f) (st.set n 1) (ms.getD n ()).n.bO=(false,B)->eK (ms.map dP.n) (f+1) st n=(false,B):=λe e1 e2 B h=>by unfold eK;rw[aC e,aC e1,I,aC e2,h];rfl
  have⟨R,hR⟩:=aD (eK (ms.map dP.n) (f+1) st n);rw[<-hR]at C F P U V⊢;have⟨HP,HPW⟩:=aK (show∀y b,R=(b,st)->ai w w y->vw R Z sb N x4 p g (av (some ⟨b1,o1,none⟩) ms.length vc) ms w (ax (aw b)) y fromλy b e hy=>⟨by rw[e],by rw[e];exact HI.o.bH (aQ.of_below hy),(ch hy).mono (by simp)⟩) (show∀y b B,R=(b,B)->AR y Z sb N x4 p g (av (some ⟨b1,o1,none⟩) ms.length vc) ms B->aQ [sb] w y->vw R Z sb N x4 p g (av (some ⟨b1,o1,none⟩) ms.length vc) ms w (ax (aw b)) y fromλy b B e h1 H=>⟨by rw[e],by rw[e];exact h1,H⟩);have⟨ea,ec,K,_⟩:=hr.len;rw[K]at n1 hr;generalize vw R Z sb N x4 p g (av (some ⟨b1,o1,none⟩) ms.length vc) ms w=Q at*;have q1:(0:Int)<=(n:Int):=by omega
  have q2:(n:Int)<(ms.length:Int):=by omega
  have q3:¬12<dd:=by omega
  have⟨L,X⟩:=aD ((ms.getD n ()).n.fin);have⟨J,hes⟩:=aD ((ms.getD n ()).n.bO);rw[<-X]at P U V n0;rw[<-hes]at P U V hr n1 q t;have M:ai w w (w.alloc (aB #[aw L,av ea J.length ec] 308 (0,0))):=(aO _ _).alloc (aP _) _;have ue:=au M;by_cases H:st.getD n 0=2
  .rw[H]at s0
   have HF:=au (HP.o _ true (C H) ue.o);clear h d a hg2 l hr I A q t C F P U V hR K M H X hes O;go_in;go_wp2;exact HF.o
  have hb2:(st.getD n 0==2)=false:=by simpa using H
  by_cases h1:st.getD n 0=1
  .rw[h1]at s0
   have HF:=au (HP.o _ false (F H h1) ue.o);clear h d a hg2 l hr I A q t C F P U V hR K M H hb2 h1 X hes O;go_in;go_wp2;exact HF.o
  have hb1:(st.getD n 0==1)=false:=by simpa using h1
  by_cases h0:L=false/\J=[]
  .have HF:=au (HP.o _ false (P H h1 h0) ue.o)
   obtain⟨rfl,rfl⟩:=h0;generalize st.getD n 0=sn at*;simp only[dx]at n1 HF;clear h d a hg2 l hr I A q t C F P U V hR K M H h1 X hes O;go_in;go_wp2;exact HF.o
  have⟨QI,HRF⟩:=aK (U H h1 h0) (V H h1 h0);have⟨Y,hpc⟩:=h.put n G 1;have⟨W,hW⟩:=aD ((w.setCell ⟨sb,n,none⟩ (1:Int)).alloc (aB #[aw L,av ea J.length ec] 308 (0,0)));have⟨g1,gg,gl⟩:=dt hW;rw[show(w.setCell ⟨sb,n,none⟩ (1:Int)).heap.size=w.heap.size by simp[World.setCell]]at g1 gl;have w0:=aF g1 1 rfl;have⟨W0,HWI,HWC,HEG,HEB,Cv⟩:=eC w0 (Y.bH gg) (hpc.trans (gg.mono (by simp))) hr A q;have⟨aiW,HW,HDD⟩:=aX t hW O;have hguard:L=true∨(L=false/\((J.length:Int)==0)=false):=by
   cases L
   .right
    refine⟨rfl,?_⟩;rw[j7];intro e;exact h0 ⟨rfl,List.length_eq_zero_iff.1 (by omega)⟩
   .exact .inl rfl
  have HGU:=au hguard;generalize st.getD n 0=sn at*;clear h d a hg2 l hr I A q t C F P U V hR K M H h1 h0 X hes O Y hpc hW g1 gg hguard w0;go_in;go_upto_region 4 with fail
  go_cut [42] (λv wr=>v=aw false/\w.alloc (aB #[aw L,av ea J.length ec] 308 (0,0))=wr)
  case first=>
   obtain rfl|⟨rfl,hz⟩:=HGU.o
   .go_wp2_with fail
    go_meet;exact⟨rfl,rfl⟩
   .go_wp2_with fail
    go_meet;exact⟨rfl,rfl⟩
  case rest=>
   obtain⟨rfl,rfl⟩:=hcut;go_upto_region 7 with fail
   rw[<-HW.o];have w0:=W0.o;have hle:=aiW.o;clear n0 n1 s0 sf c1 cp c3 q1 hb2 hb1;have⟨T,hT⟩:=aD (sC (eK (ms.map dP.n) f) (st.set n 1) J);rw[<-hT]at QI HRF;have HT:=au hT;clear hT;go_wp2_with fail
   go_loopw [49] (λi wr=>∃(j:Nat) (B:List Int),i=an ar j/\j<=J.length/\AR wr Z sb N x4 p g (av (some ⟨b1,o1,none⟩) ms.length vc) ms B/\T=sC (eK (ms.map dP.n) f) B (J.drop j)/\aQ [sb] w wr) (λi _=>J.length-(intOf i).toNat)
   case atStart=>exact⟨0,_,rfl,bz _,HWI.o,by rw[HT.o];simp,HWC.o⟩
   case round=>
    obtain⟨j,B,rfl,hj,hi,hTT,hc⟩:=hrel;by_cases hlt:j<J.length
    .have hseg:=HEG.o.bH hc (λx hx=>by simpa using HEB.o x hx)
     have⟨eb,eo,ecc,heb,e3,ebl,Nd⟩:=hseg.cell (by decide) j hlt;simp only[bG,bK]at e3;obtain⟨rfl,rfl⟩:=e3;have x0:=(Nd 0 _ (by decide) (jc J j hlt).1).1;have x1':=(Nd 1 _ (by decide) (jc J j hlt).2).1;simp only[bM]at x0;have hdr:J.drop j=J.getD j ()::J.drop (j+1):=by rw[List.drop_eq_getElem_cons hlt];simp[aU,hlt]
     rw[hdr]at hTT;have⟨E,hE⟩:=aD (J.getD j ());have hEo:=Cv.o E (by rw[hE];exact bh J j hlt);rw[<-hE]at x0 x1' hTT;obtain⟨ru,tgt⟩:=E;simp only at x0 x1' hEo;obtain⟨k,rfl⟩:∃k:Nat,tgt=k:=⟨tgt.toNat,by omega⟩
     have hkl:k<ms.length:=by omega
     have⟨u,hu⟩:=aD (wr.alloc (aB #[.int .i32 ru,an ar (k:Int)] 303 (0,0)));have⟨m1,m2,m3⟩:=dt hu;have u1:=aF m1 1 rfl;have hiu:=hi.bH m2;have u4:u.cell? x4=(whF Z N x4):=by have:=hiu.a4;simp[World.cell?,this]
     have hcall:=HIH.o u Z sb N x4 p g _ ms B k (dd+1) (by have:=HDD.o;omega) (by omega) hkl hiu;have HCU:=au (hc.trans (m2.mono (by simp)));have aaQ:T=if(eK (ms.map dP.n) f B k).1=true then sC (eK (ms.map dP.n) f) (eK (ms.map dP.n) f B k).2 (J.drop (j+1))else(false,(eK (ms.map dP.n) f B k).2):=by
      rw[hTT];simp[sC]
     obtain⟨⟨rb,s3⟩,hres⟩:∃r,r=eK (ms.map dP.n) f B k:=⟨_,rfl⟩
     rw[<-hres]at hcall aaQ;have⟨JY,HTT,HU⟩:=aX hcall aaQ hu;have q1:(0:Int)<=(j:Int):=by omega
     have q2':(j:Int)<(J.length:Int):=by omega
     have qd: -100<=dd:=by have:=HDD.o;omega
     clear hi hTT hc hseg heb Nd hdr hE hEo hu m1 m2 hiu hcall aaQ hres;go_upto_region 10 with fail
     rw[<-HU.o];clear x0 x1';go_wp2_with fail
     refine JY.m ?_;rintro e z ⟨rfl,hzi,hzc⟩;have⟨HZC,HZI⟩:=aK (HCU.o.trans hzc) hzi;simp only;clear hzi hzc u1 u4;cases rb
     .have HF:=au (HPW.o z false s3 (HRF.o s3 (by rw[HTT.o];rfl)) HZI.o HZC.o)
      go_wp2;exact HF.o
     .go_wp2
      go_roundw
      case rel=>exact⟨j+1,s3,by simp,by omega,HZI.o,by rw[HTT.o];rfl,HZC.o⟩
      case measure=>simp[intOf];omega
    .have hdr:J.drop j=[]:=List.drop_eq_nil_of_le (by omega)
     rw[hdr]at hTT;have aeL:T=(true,B):=by rw[hTT];rfl
     have⟨Y,hpc⟩:=hi.put n G 2;have HF:=au (HPW.o _ true (B.set n 2) (QI.o B aeL) Y (hc.trans hpc));have c3:wr.cell? N=some (av (some ⟨sb,0,none⟩) ms.length ms.length):=by have:=hi.a3;simp[World.cell?,this]
     have⟨b2,o2,cc2,_,e2,bl2,a⟩:=hi.s.cell (by decide) n G;simp only[bG,bA,dr,bK,et]at e2;obtain⟨⟨rfl,rfl⟩,rfl⟩:=e2;have l:(sI B)[n*1+0]? =some (B.getD n 0:Int):=by
      have hl:=hi.sl;simp[sI,aU,show n<B.length by omega]
     have s0:=(a 0 _ (by decide) l).1;have sf:=(a 0 _ (by decide) l).2;simp only[bM,Nat.mul_one,eJ]at s0 sf;have q1:(0:Int)<=(n:Int):=by omega
     clear hi hTT hc hdr aeL Y hpc a l;go_wp2;exact HF.o
def rh(ns:List gO):Bool:=(decide (ns.length=1)&&decide ((ns.getD 0 ()).bO.length=0))||(eK ns 13 (List.replicate ns.length 0) 0).1
structure XO(ms:List dP):Prop where
 ok:∀m∈ms,∀e∈m.n.bO,0<=e.2/\e.2<ms.length
 nl:ms.length<=1000000
 el:∀m∈ms,m.n.bO.length<=1000000
 pos:0<ms.length
def QM(n:Nat):madeCells #[Value.int .i64 0] n=(sI (List.replicate n 0)).toArray:=by
 unfold madeCells sI;apply Array.ext
 .simp
 .intro i a b
  simp[Nat.mod_one]
def aaR{w:ae}{p:Nat}{g:Option Nat}{v:ah}{ms:List dP}(h:jm w p g v ms)(f:XO ms):aj prog 162 #[p] w λe w'=>e=ax (aw (rh (ms.map dP.n)))/\ai w w w':=by
 have hnl:=f.nl;have q:=λw=>Go.run_make_row' (P:=prog) 43 3 (0:Int) 8 underlying43 tQ rfl .i64 .i64 ms.length (by omega) (by omega) w
 rw[QM]at q;have HH:=au h;obtain⟨Q,T,rfl,_,TA⟩:=h.s.len;have cp:w.cell? p=some (av Q ms.length T):=by have:=h.c;simp[World.cell?,this]
 have lp:=az h.c;have⟨A,K⟩:=aD ((sI (List.replicate ms.length 0)).toArray);rw[<-K]at q;have⟨u,L⟩:=aD ((((w.alloc (aB #[p] 215 (0,0))).alloc (aB A 3 (0,0))).alloc (aB #[av (some ⟨w.heap.size+1,0,none⟩) ms.length ms.length] 43 (0,0))).alloc (aB #[whF w (w.heap.size+1+1) (w.heap.size+1+1+1)] 287 (0,0)));have⟨w1,b⟩:=aD ((w.alloc (aB #[p] 215 (0,0))).alloc (aB A 3 (0,0)));have⟨k1,k2,kg,kl⟩:=rZ b;have ks:w1.heap.size=w.heap.size+2:=by rw[b];simp
 rw[<-b]at L;have⟨U,V,i,t⟩:=rZ L;rw[ks]at U V t;have M:=(kg.trans i).aJ;have a:AR u w (w.heap.size+1) (w.heap.size+2) (w.heap.size+3) p g (av Q ms.length T) ms (List.replicate ms.length 0):=by
  refine⟨i.at k1 (by simp),U,V,⟨by simp[sI],.inr ⟨_,0,ms.length,_,rfl,rfl,i.at k2 (by simp),aP _,by unfold maxLen;omega,by rw[K];simp[sI],λj hj=> ?_⟩⟩,by simp,h.bH (ch M) (by simp),λx hx=>h.lt x hx,by omega,by omega,by omega,f.ok,f.nl,f.el⟩;rw[K,List.getElem?_toArray,eJ]
 have HG:=au (aeH 13 u w (w.heap.size+2-1) (w.heap.size+2) (w.heap.size+3) p g (av Q ms.length T) ms (List.replicate ms.length 0) 0 0 rfl (aP _) f.pos a);have y:u=(((w.alloc (aB #[p] 215 (0,0))).alloc (aB A 3 (0,0))).alloc (aB #[av (some ⟨w.heap.size+1,0,none⟩) ms.length ms.length] 43 (0,0))).alloc (aB #[whF w (w.heap.size+1+1) (w.heap.size+1+1+1)] 287 (0,0)):=by rw[L,b]
 have HU:=au y;have u1:u.cell? w.heap.size=p:=by have:=a.a1;simp[World.cell?,this]
 have up:=(M.cell (p:=⟨p,0,none⟩) lp).trans cp;have u4:u.cell? ⟨w.heap.size+3,0,none⟩=(whF w (w.heap.size+2) (w.heap.size+3)):=by have:=a.a4;simp[World.cell?,this]
 have⟨b1,o1,cc1,_,B,bl1,k⟩:=a.gr.s.cell (by decide) 0 f.pos;simp only[bG,bK]at B;obtain⟨rfl,rfl⟩:=B;have W:=(k 1 (ms.getD 0 ()).ev (by decide) (iy ms 0 1 f.pos (by decide))).1;simp only[Nat.zero_mul,bM]at W;have⟨ea,ec,C,_⟩:=Seg.len (show Seg u 303 2 _ (ms.getD 0 ()).ev _ _ from a.gr.r _ (bh ms 0 f.pos));rw[C]at W;have E:=f.pos;have F:(ms.map dP.n).getD 0 ()=(ms.getD 0 ()).n:=by simp[aU,E]
 have G:rh (ms.map dP.n)=((decide (ms.length=1)&&decide ((ms.getD 0 ()).n.bO.length=0))||(eK (ms.map dP.n) 13 (List.replicate ms.length 0) 0).1):=by unfold rh;rw[F,cr]
 have⟨R,H⟩:=aD (rh (ms.map dP.n));rw[<-H]at G⊢;have⟨N,I⟩:=aD ((ms.getD 0 ()).n.bO.length);rw[<-I]at G W;obtain⟨⟨rb,s2⟩,l⟩:∃r,r=eK (ms.map dP.n) 13 (List.replicate ms.length 0) 0:=⟨_,rfl⟩
 rw[<-l]at G HG;have⟨J,X⟩:=aK G M;clear h a L y b k1 k2 kg kl ks U V i t M k C F G H I l K;go_in;go_upto_region 4 with fail
 rw[<-HU.o];clear q;by_cases d:ms.length=1/\N=0
 .obtain⟨B,rfl⟩:=d
  have b1':((ms.length:Int)==1)=true:=by simp;omega
  have Y:=au (show R=true by rw[J.o];simp[B]);clear B;go_wp2;go_ret;exact⟨cA Y.o.symm,X.o⟩
 .have Y:=au (show R=rb by
   rw[J.o];have:(decide (ms.length=1)&&decide (N=0))=false:=by
    cases O:decide (ms.length=1)<;>cases h2:decide (N=0)<;>simp_all
   rw[this];rfl)
  have Z:((ms.length:Int)==1)=false∨(((ms.length:Int)==1)=true/\((N:Int)==0)=false):=by
   by_cases O:ms.length=1
   .right
    refine⟨by simp;omega,?_⟩;rw[j7];exactλe=>d ⟨O,by omega⟩
   .left
    rw[j7];omega
  clear d;obtain O|⟨O,h2⟩:=Z
  all_goals
   go_wp2_with fail
   refine HG.m ?_;rintro e z ⟨rfl,_,hz⟩;have HZ:=au (X.o.trans (hz.below (by simp<;>omega) X.o.size));clear hz;go_wp2;go_ret;exact⟨cA Y.o.symm,HZ.o⟩
def eR(r:Int):er:=(Utf8.encode r).data.toList
def o9(f:Bool×List er->Nat->er->Bool×List er)(a:er):Bool×List er->List eY->Bool×List er
 |s,[]=>s
 |s,e::l=>o9 f a (f s e.2.toNat (a++eR e.1)) l
def gU(ns:List gO):Nat->Bool×List er->Nat->er->Bool×List er
 |0,s,_,_=>(false,s.2)
 |f+1,s,n,a=>if s.1=false∨60<s.2.length then(false,s.2)else o9 (gU ns f) a (if(ns.getD n ()).fin then(s.1,s.2++ [a])else s) (ns.getD n ()).bO
abbrev soF(xg xl xo xf:Nat):ah:=.func (Fn.func 183) #[] #[.pointer (some ⟨xo,0,none⟩),.pointer (some ⟨xl,0,none⟩),.pointer (some ⟨xg,0,none⟩),.pointer (some ⟨xf,0,none⟩)]
structure sU(w:ae)(xg xl xo xf p:Nat)(g:Option Nat)(v:ah)(ms:List dP)(lb:Option Nat)(lv:ah)(s:Bool×List er):Prop where
 ag:w.heap[xg]? =some (aB #[p] 215 (0,0))
 al:w.heap[xl]? =some (aB #[lv] 22 (0,0))
 ao:w.heap[xo]? =some (aB #[aw s.1] 4 (0,0))
 af:w.heap[xf]? =some (aB #[soF xg xl xo xf] 334 (0,0))
 ls:Seg w 9 1 lb lv (s.2.flatMap t_) s.2.length
 gr:jm w p g v ms
 o:∀x∈pO p g ms,x<xg
 o1:xg<xl
 o2:xl<xo
 o3:xo<xf
 o4:∀x,lb=some x->xf<x
 ok:XO ms
 ll:s.2.length<=61
def jm.under{w':ae}{v:ah}{ms:List dP}(h:jm w p g v ms){B:Nat}(a:ai B w w')(b:∀x∈pO p g ms,x<B):jm w' p g v ms:=h.kept λx c=>a.block x (b x c)
def sU.bH{w':ae}{b c d e:Nat}{v:ah}{ms:List dP}{f:Option Nat}{i:ah}{s:Bool×List er}(h:sU w b c d e p g v ms f i s)(a:aQ ([]:List Nat) w w'):sU w' b c d e p g v ms f i s:=
 ⟨a.at h.ag (by simp),a.at h.al (by simp),a.at h.ao (by simp),a.at h.af (by simp),h.ls.bH a (by simp),h.gr.bH a (by simp),h.o,h.o1,h.o2,h.o3,h.o4,h.ok,h.ll⟩
def sU.not{c e a f:Nat}{v:ah}{ms:List dP}{j:Option Nat}{k:ah}{s:Bool×List er}(h:sU w c e a f p g v ms j k s):sU (w.setCell ⟨a,0,none⟩ (aw false)) c e a f p g v ms j k (false,s.2)/\ai c w (w.setCell ⟨a,0,none⟩ (aw false)):=by
 have b:aQ [a] w (w.setCell ⟨a,0,none⟩ (aw false)):=(aQ.refl _ _).setCell _ (by simp) _;have l:=h.o1;have m:=h.o2;have n:=h.o3;refine⟨⟨b.at h.ag (by simp;omega),b.at h.al (by simp;omega),by simpa using aE (i:=0) h.ao (aw false),b.at h.af (by simp;omega),h.ls.bH b (λx d=>by have:=h.o4 x d;simp;omega),h.gr.bH b (λx d=>by have:=h.o x d;simp;omega),h.o,h.o1,h.o2,h.o3,h.o4,h.ok,h.ll⟩,b.below (by simp;omega) (lH (az h.ag))⟩
def sU.push{A j B q:Nat}{v:ah}{ms:List dP}{C:Option Nat}{E:ah}{s:Bool×List er}(h:sU w A j B q p g v ms C E s)(a:er)(K:s.2.length<=60):
 ∃k l t f,(∀H,(Builtin.append_ #[22,22] H #[E,av (some ⟨w,0,none⟩) 1 1]).run prog (w.alloc (aB #[aA ⟨a.toArray⟩] 9 (0,0)))=.ok (av k (s.2.length+1) l) t)/\t.heap[j]? =some (aB #[E] 22 (0,0))/\
  sU (t.setCell ⟨j,0,none⟩ (av k (s.2.length+1) l)) A j B q p g v ms f (av k (s.2.length+1) l) (s.1,s.2++ [a])/\ai A w (t.setCell ⟨j,0,none⟩ (av k (s.2.length+1) l)):=by
 have⟨L,t,f,r,F,n,I⟩:=h.ls.push 22 underlying22 Af rfl (by decide) [aA ⟨a.toArray⟩] rfl (by simp[Value.oneCell']) (by omega) (by decide);obtain⟨k,l,rfl,_⟩:=F.len;have M:=h.o1;have N:=h.o2;have O:=h.o3;have u:∀x∈C.toList,q<x:=λx d=>h.o4 x (by simpa using d)
 have m:∀x,f=some x->q<x:=λx d=>by
  obtain e|⟨y,e,J⟩:=I
  .exact h.o4 x (by rw[<-e,d])
  .rw[d]at e
   simp only[bA]at e;subst e;have:=az h.af;omega
 have b:∀y,y<=q->y∉C.toList:=λy J e=>by have:=u y e;omega
 have c:aQ [j] t (t.setCell ⟨j,0,none⟩ (av k (s.2.length+1) l)):=(aQ.refl _ _).setCell _ (by simp) _;have z:=n.at h.al (b j (by omega));refine⟨k,l,t,f,r,z,⟨c.at (n.at h.ag (b A (by omega))) (by simp;omega),by simpa using aE (i:=0) z (av k (s.2.length+1) l),c.at (n.at h.ao (b B (by omega))) (by simp;omega),c.at (n.at h.af (b q (by omega))) (by simp;omega),?_,(h.gr.bH n (λx d=>b x (by have:=h.o x d;omega))).bH c (λx d=>by have:=h.o x d;simp;omega),h.o,h.o1,h.o2,h.o3,m,h.ok,by simp;omega⟩,?_⟩
 .have:=F.bH c (λx d=>by have:=m x d;simp;omega)
  rw[fQ,bF];exact this
 .have G:=lH (az h.ag)
  exact(n.below (λx d=>by have:=u x d;omega) G).trans (c.below (by simp;omega) (bD G n.size))
def Ej(r:Int)(w:ae):(convert 21 9 (.int .i32 r)).run prog w=.ok (aA (Utf8.encode r)) w:=by kernel_rfl
def sV(r:Bool×List er)(xg xl xo xf p:Nat)(g:Option Nat)(v:ah)(ms:List dP)(w:ae)(e:ak)(w':ae):Prop:=
 ∃lb lv,e=ax (aM #[])/\sU w' xg xl xo xf p g v ms lb lv r/\ai xg w w'
def soC:∀(f:Nat) (w:ae) (b q d x p:Nat) (g:Option Nat) (v:ah) (ms:List dP) (lb:Option Nat) (lv:ah) (s:Bool×List er) (n:Nat) (a:er) (dd:Int),dd=13-(f:Int)->f<=13->n<ms.length->a.length+4*f<=1000->sU w b q d x p g v ms lb lv s->
 aj prog 183 #[(n:Int),aA ⟨a.toArray⟩,(dd:Int),d,q,b,x] w (sV (gU (ms.map dP.n) f s n a) b q d x p g v ms w):=by
 intro f
 induction f with
 |zero=>
  intro w b q d x p g v ms lb lv s n a dd L hf Y hal h;have hd:dd=13:=by simpa using L
  subst hd;have⟨B,N⟩:=h.not;have HF:=au (show sV (gU (ms.map dP.n) 0 s n a) b q d x p g v ms w (ax (aM #[])) (w.setCell ⟨d,0,none⟩ (aw false))from⟨lb,lv,rfl,B,N⟩);obtain⟨la,lc,rfl,_,O⟩:=h.ls.len;unfold maxLen at O;have co:w.cell? d=some (aw s.1):=by have:=h.ao;simp[World.cell?,this]
  have cl:w.cell? q=some (av la s.2.length lc):=by have:=h.al;simp[World.cell?,this]
  have fo:w.frozen? ⟨d,0,none⟩=false:=by have:=h.ao;simp[World.frozen?,this]
  generalize sV (gU (ms.map dP.n) 0 s n a) b q d x p g v ms w=Q at*;obtain⟨s1,C⟩:=s;simp only at co cl O;clear h B N L;cases s1
  .go_in
   go_wp2
   go_end0
   exact HF.o
  .by_cases h60:60<C.length
   .have q1:(60:Int)<(C.length:Int):=by omega
    clear h60;go_in;go_wp2
    go_end0
    exact HF.o
   .have q1:¬(60:Int)<(C.length:Int):=by omega
    clear h60;go_in;go_wp2
    go_end0
    exact HF.o
 |succ f ih=>
  intro w b q d x p g v ms lb lv s n a dd L hf Y hal h;have HIH:=au ih;clear ih;have HI:=au h;obtain⟨la,lc,rfl,_,O⟩:=h.ls.len;unfold maxLen at O;have co:w.cell? d=some (aw s.1):=by have:=h.ao;simp[World.cell?,this]
  have cl:w.cell? q=some (av la s.2.length lc):=by have:=h.al;simp[World.cell?,this]
  have cg:w.cell? b=some p:=by have:=h.ag;simp[World.cell?,this]
  have fo:w.frozen? ⟨d,0,none⟩=false:=by have:=h.ao;simp[World.frozen?,this]
  have lg:=az h.ag;obtain⟨va,vc,rfl,_,TA⟩:=h.gr.s.len;unfold maxLen at TA;have cp:w.cell? p=some (av va ms.length vc):=by have:=h.gr.c;simp[World.cell?,this]
  by_cases l:s.1=false∨60<s.2.length
  .have⟨B,N⟩:=h.not
   have hv:gU (ms.map dP.n) (f+1) s n a=(false,s.2):=by unfold gU;rw[aI l]
   have HF:=au (show sV (gU (ms.map dP.n) (f+1) s n a) b q d x p g (av va ms.length vc) ms w (ax (aM #[])) (w.setCell ⟨d,0,none⟩ (aw false))from⟨lb,_,rfl,by rw[hv];exact B,N⟩);generalize sV (gU (ms.map dP.n) (f+1) s n a) b q d x p g (av va ms.length vc) ms w=Q at*;obtain⟨s1,C⟩:=s;simp only at co cl O l;clear h B N L hv;cases s1
   .clear l
    go_in;go_wp2
    go_end0
    exact HF.o
   .have q1:(60:Int)<(C.length:Int):=by
     obtain e|e:=l
     .cases e
     .omega
    clear l;go_in;go_wp2
    go_end0
    exact HF.o
  obtain⟨hs1,h60⟩:s.1=true/\¬60<s.2.length:=by
   cases h1:s.1
   .exact bL (.inl h1) l
   .exact⟨rfl,λe=>l (.inr e)⟩
  have aeN:(ms.map dP.n).getD n ()=(ms.getD n ()).n:=by simp[aU,Y]
  have hv:gU (ms.map dP.n) (f+1) s n a=o9 (gU (ms.map dP.n) f) a (if(ms.getD n ()).n.fin then(s.1,s.2++ [a])else s) (ms.getD n ()).n.bO:=by
   conv=>lhs;unfold gU
   rw[aC l,aeN]
  have⟨b1,o1,cc1,_,e1,bl1,T⟩:=h.gr.s.cell (by decide) n Y;simp only[bG,bK]at e1;obtain⟨rfl,rfl⟩:=e1;have n0:=(T 0 (aw (ms.getD n ()).n.fin) (by decide) (iy ms n 0 Y (by decide))).1;have n1:=(T 1 (ms.getD n ()).ev (by decide) (iy ms n 1 Y (by decide))).1;simp only[bM]at n0;have HR:=au (show∀y,ai b w y->y.cell? ⟨b1,o1+n*2+1,none⟩=(ms.getD n ()).ev/\y.cell? p=some (av (some ⟨b1,o1,none⟩) ms.length vc)/\Seg y 303 2 (ms.getD n ()).eb (ms.getD n ()).ev (rO (ms.getD n ()).n.bO) (ms.getD n ()).n.bO.length/\b1<y/\p<y fromλy hy=>by
   have hg2:=HI.o.gr.under hy HI.o.o;have⟨b1',o1',aoG,_,e1',aiZ,aeO⟩:=hg2.s.cell (by decide) n Y;simp only[bG,bA,dr,bK,et]at e1';obtain⟨⟨rfl,rfl⟩,rfl⟩:=e1';exact⟨(aeO 1 (ms.getD n ()).ev (by decide) (iy ms n 1 Y (by decide))).1,by have:=hg2.c;simp[World.cell?,this],hg2.r _ (bh ms n Y),aiZ,az hg2.c⟩)
  have U:=h.ok.ok _ (bh ms n Y);have ai0:=h.ok.el _ (bh ms n Y);have⟨R,hR⟩:=aD (gU (ms.map dP.n) (f+1) s n a);rw[<-hR]at hv⊢;have HP:=au (show∀y C F G,R=C->sU y b q d x p g (av (some ⟨b1,o1,none⟩) ms.length vc) ms F G C->ai b w y->sV R b q d x p g (av (some ⟨b1,o1,none⟩) ms.length vc) ms w (ax (aM #[])) y fromλy C F G e h1 h2=>⟨F,G,rfl,by rw[e];exact h1,h2⟩);generalize sV R b q d x p g (av (some ⟨b1,o1,none⟩) ms.length vc) ms w=Q at*;have⟨fin,V⟩:=aD ((ms.getD n ()).n.fin);have⟨K,hes⟩:=aD ((ms.getD n ()).n.bO);have⟨ev,H⟩:=aD ((ms.getD n ()).ev);rw[<-V]at n0;rw[<-V,<-hes]at hv;rw[<-hes,<-H]at HR;rw[<-hes]at U ai0;rw[<-H]at n1;have⟨HV,Cv⟩:=aK hv U;have⟨la',lc',t,lb',hrun,htl,hpi,hpb⟩:=h.push a (by omega);have⟨gN,HPI,HPB⟩:=aX hrun hpi hpb;have tl:=aF htl 0 rfl;have tf:=bB htl 0;rw[hs1]at co;have q1:¬(60:Int)<(s.2.length:Int):=by omega
  have q2:¬(12:Int)<dd:=by omega
  have q3:(0:Int)<=(n:Int):=by omega
  have q4:(n:Int)<(ms.length:Int):=by omega
  have HDD:=au L;have bgl:=lH lg;clear h l hs1 h60 aeN hv T U hR V hes H hrun htl hpi hpb L;go_in
  go_upto_if 30 with fail
  go_cut [] (λwr=>∃F G,sU wr b q d x p g (av (some ⟨b1,o1,none⟩) ms.length vc) ms F G (if fin then(s.1,s.2++ [a])else s)/\ai b w wr)
  case first=>
   cases fin
   .go_wp2_with fail
    go_meet;exact⟨lb,_,HI.o,aO _ _⟩
   .go_wp2_with (refine cE (by rfl) (.tmp 31) (.tmp 33) 22 (by rfl) _ _ _ t (by rfl) (by rfl) (gN.o _) ?_)
    go_meet;exact⟨lb',_,HPI.o,HPB.o⟩
  case rest=>
   obtain⟨F,G,hi2,hb2⟩:=hcut;have⟨m1,mp,aeP,mb,mpl⟩:=HR.o wc hb2;have mg:wc.cell? b=some p:=by have:=hi2.ag;simp[World.cell?,this]
   have⟨ea,ec,H,_⟩:=aeP.len;rw[H]at m1;generalize(if fin then(s.1,s.2++ [a])else s)=s0 at*;have⟨HI2,HB2,CN⟩:=aX hi2 hb2 H;clear hi2 hb2 aeP H n0 n1 co cl cg cp tl tf;go_wp2_with fail
   go_loopw [44] (λi wr=>∃(j:Nat) (C:Bool×List er) (F:Option Nat) (G:ah),i=an ar j/\j<=K.length/\sU wr b q d x p g (av (some ⟨b1,o1,none⟩) ms.length vc) ms F G C/\R=o9 (gU (ms.map dP.n) f) a C (K.drop j)/\ai b w wr) (λi _=>K.length-(intOf i).toNat)
   case atStart=>exact⟨0,_,_,_,rfl,bz _,HI2.o,by rw[HV.o];simp,HB2.o⟩
   case round=>
    obtain⟨j,C,lb3,lv3,rfl,hj,hi,I,hb⟩:=hrel;by_cases M:j<K.length
    .have⟨_,_,hseg,_,_⟩:=HR.o wr hb
     have⟨eb,eo,ecc,heb,e3,ebl,W⟩:=hseg.cell (by decide) j M;rw[CN.o]at e3;simp only[bG,bK]at e3;obtain⟨rfl,rfl⟩:=e3;have x0:=(W 0 _ (by decide) (jc K j M).1).1;have x1':=(W 1 _ (by decide) (jc K j M).2).1;simp only[bM]at x0;have X:K.drop j=K.getD j ()::K.drop (j+1):=by rw[List.drop_eq_getElem_cons M];simp[aU,M]
     rw[X]at I;have⟨E,hE⟩:=aD (K.getD j ());have hEo:=Cv.o E (by rw[hE];exact bh K j M);rw[<-hE]at x0 x1' I;obtain⟨Z,tgt⟩:=E;simp only at x0 x1' hEo;obtain⟨k,rfl⟩:∃k:Nat,tgt=k:=⟨tgt.toNat,by omega⟩
     have hkl:k<ms.length:=by omega
     have⟨u,hu⟩:=aD (wr.alloc (aB #[.int .i32 Z,an ar (k:Int)] 303 (0,0)));have⟨z1,z2,z3⟩:=dt hu;have⟨u0,u1⟩:=dk z1;have hiu:=hi.bH z2;have uf:u.cell? x=(soF b q d x):=by have:=hiu.af;simp[World.cell?,this]
     have⟨A,hA⟩:= @aD ByteArray (⟨a.toArray⟩);have⟨EN,XP⟩:=aD (Utf8.encode Z);have hAE:A++EN=⟨(a++eR Z).toArray⟩:=by
      rw[hA,XP];apply ByteArray.ext;apply Array.toList_inj.1;simp[eR]
     have ai3:(eR Z).length<=4:=encode_size_le Z;have J:=HIH.o u b q d x p g _ ms lb3 lv3 C k (a++eR Z) (dd+1) (by have:=HDD.o;omega) (by omega) hkl (by rw[bF];omega) hiu;rw[<-hAE]at J;have hcv:=λw=>Ej Z w
     rw[<-XP]at hcv;have hA4:A.size<=1000:=by rw[hA,ByteArray.size];simp;omega
     have hE4:EN.size<=4:=by rw[XP];exact encode_size_le Z
     have hadd:=λw=>run_string_add_sum (P:=prog) (w:=w) A EN (by omega)
     have HCU:=au (hb.trans (z2.aJ.mono (bD bgl hb.size)));have aeR:R=o9 (gU (ms.map dP.n) f) a (gU (ms.map dP.n) f C k (a++eR Z)) (K.drop (j+1)):=by rw[I];simp[o9]
     generalize gU (ms.map dP.n) f C k (a++eR Z)=s3 at*;have⟨JY,HRR,HU⟩:=aX J aeR hu;have q5:(0:Int)<=(j:Int):=by omega
     have q6:(j:Int)<(K.length:Int):=by omega
     have qd: -100<=dd:=by have:=HDD.o;omega
     clear hi I hb hseg heb W X hE hEo hu z1 z2 hiu J aeR XP hAE ai3;rw[<-hA];clear hA;go_upto_region 7 with fail
     rw[<-HU.o];clear x0 x1';go_wp2_with fail
     refine JY.m ?_;rintro e z ⟨lb4,lv4,rfl,hzi,hzb⟩;have⟨HZI,Pa⟩:=aK hzi (HCU.o.trans hzb);simp only;clear hzi hzb uf u0 u1;go_wp2;go_roundw
     case rel=>exact⟨j+1,s3,lb4,lv4,by simp,by omega,HZI.o,HRR.o,Pa.o⟩
     case measure=>simp[intOf];omega
    .have X:K.drop j=[]:=List.drop_eq_nil_of_le (by omega)
     rw[X]at I;have HF:=au (HP.o wr C lb3 lv3 I hi hb);clear hi I hb X;go_wp2
     go_end0
     exact HF.o
def jn(ns:List gO):List er×Bool:=((gU ns 13 (true,[]) 0 []).2,(gU ns 13 (true,[]) 0 []).1&&decide ((gU ns 13 (true,[]) 0 []).2.length<=60))
def Nf(r:List er×Bool)(w:ae)(e:ak)(w':ae):Prop:=
 ∃lb lv,e=ax (aM #[lv,aw r.2])/\Seg w' 9 1 lb lv (r.1.flatMap t_) r.1.length/\(∀x,lb=some x->w.heap.size<=x)/\r.1.length<=61/\ai w w w'
def aeS{w:ae}{p:Nat}{g:Option Nat}{v:ah}{ms:List dP}(h:jm w p g v ms)(B:XO ms):aj prog 163 #[p] w (Nf (jn (ms.map dP.n)) w):=by
 have⟨u,A⟩:=aD ((((w.alloc (aB #[p] 215 (0,0))).alloc (aB #[()] 22 (0,0))).alloc (aB #[aw true] 4 (0,0))).alloc (aB #[soF w (w.heap.size+1) (w.heap.size+1+1) (w.heap.size+1+1+1)] 334 (0,0)));have⟨U,a⟩:=aD ((w.alloc (aB #[p] 215 (0,0))).alloc (aB #[()] 22 (0,0)));have⟨H,I,J,V⟩:=rZ a;have K:U.heap.size=w.heap.size+2:=by rw[a];simp
 rw[<-a]at A;have⟨C,E,b,l⟩:=rZ A;rw[K]at C E l;have F:=(J.trans b).aJ;have f:sU u w (w.heap.size+1) (w.heap.size+2) (w.heap.size+3) p g v ms none () (true,[]):=by
  refine⟨b.at H (by simp),b.at I (by simp),C,E,⟨rfl,.inl ⟨rfl,rfl,rfl⟩⟩,h.bH (ch F) (by simp),λx q=>h.lt x q,by omega,by omega,by omega,(λx q=>bL q (by simp)),B,by simp⟩
 have L:=au (soC 13 u w (w.heap.size+1) (w.heap.size+2) (w.heap.size+3) p g v ms none _ (true,[]) 0 [] 0 (by omega) (aP _) B.pos (by simp) f);have r:u=(((w.alloc (aB #[p] 215 (0,0))).alloc (aB #[()] 22 (0,0))).alloc (aB #[aw true] 4 (0,0))).alloc (aB #[soF w (w.heap.size+1) (w.heap.size+1+1) (w.heap.size+1+1+1)] 334 (0,0)):=by rw[A,a]
 have W:=au r;have u4:u.cell? ⟨w.heap.size+3,0,none⟩=(soF w (w.heap.size+1) (w.heap.size+2) (w.heap.size+3)):=by have:=f.af;simp[World.cell?,this]
 unfold jn;have⟨R,M⟩:=aD (gU (ms.map dP.n) 13 (true,[]) 0 []);rw[<-M]at L⊢;have⟨N,X⟩:=aK F (show∀y j s,Seg y 9 1 j s (R.2.flatMap t_) R.2.length->(∀x,j=some x->w.heap.size<=x)->R.2.length<=61->ai w w y->Nf (R.2,R.1&&decide (R.2.length<=60)) w (ax (aM #[s,aw (R.1&&decide (R.2.length<=60))])) y fromλy j s Y Z h3 h4=>⟨j,s,rfl,Y,Z,h3,h4⟩);generalize Nf (R.2,R.1&&decide (R.2.length<=60)) w=Q at*;clear h f A r a H I J V K C E b l F M B;go_in;go_upto_region 5 with fail
 rw[<-W.o];go_wp2_with fail
 refine L.m ?_;rintro e z ⟨j,s,rfl,d,i⟩;obtain⟨O,P,rfl,_,_⟩:=d.ls.len;have cl:z.cell? ⟨w.heap.size+1,0,none⟩=some (av O R.2.length P):=by have:=d.al;simp[World.cell?,this]
 have co:z.cell? ⟨w.heap.size+2,0,none⟩=some (aw R.1):=by have:=d.ao;simp[World.cell?,this]
 obtain⟨T,t⟩:=R;simp only at cl co;have k:=au (show∀nq,Q (ax (aM #[av O t.length P,aw (T&&decide (t.length<=60))])) (z.drewN nq)fromλnq=>X.o _ j _ (d.ls.bH (bo z nq) (by simp)) (λx q=>by have:=d.o4 x q;omega) d.ll ((N.o.trans i).trans ((bo z nq).aJ.mono (N.o.trans i).size)));have G:=d.ll;simp only at G;clear d i u4;simp only;go_wp2_with fail
 cases T
 .simp only[Bool.false_and]at k⊢
  go_quiet (fail);go_wp2;exact k.o nq
 .by_cases c:t.length<=60
  .have q1:(t.length:Int)<=60:=by omega
   simp only[c,decide_true,Bool.true_and]at k⊢;clear c;go_quiet (fail);go_wp2;exact k.o nq
  .have q1:¬(t.length:Int)<=60:=by omega
   simp only[c,decide_false,Bool.true_and]at k⊢;clear c;go_quiet (fail);go_wp2;exact k.o nq
theorem aT.gP{k:Type}[Inhabited k]{f:k->List ah}{sz e:Nat}{v:ah}{xs:List k}(h:Seg w e sz g v (xs.flatMap f) xs.length)(r:∀x,(f x).length=sz)(o:0<sz):aT f sz w v xs:=by
 obtain⟨a,p,rfl,z,A⟩:=Seg.len h;refine⟨a,p,rfl,A,z,λi c=> ?_⟩;have⟨b,q,s,_,t,m,B⟩:=h.cell o i c;simp only[bG,bK]at t;obtain⟨rfl,rfl⟩:=t;have d:∀(L:List k) (i j:Nat),i<L.length->j<sz->(L.flatMap f)[i*sz+j]? =(f (L.getD i ()))[j]? :=by
  intro L
  induction L with
  |nil=>intro i j c;simp at c
  |cons a l C=>
   intro i j c n;have e:(a::l).flatMap f=f a++l.flatMap f:=by simp
   have m:=r a;cases i with
   |zero=>
    rw[e,Nat.zero_mul,eJ,gZ (by omega)];rfl
   |succ i=>
    rw[e,g_ (by rw[m,Nat.add_mul];omega),m,show(i+1)*sz+j-sz=i*sz+j by rw[Nat.add_mul];omega,C i j (by simpa using c) n];rfl
 refine⟨b,q,rfl,m,λj u y=> ?_⟩;have n:j<sz:=by rw[<-r (xs.getD i ())];exact(List.getElem?_eq_some_iff.1 y).1
 exact(B j u n ((d xs i j c n).trans y)).1
def QN(ns:List gO):∀(f:Nat) (s:Bool×List er) (n:Nat) (a:er),a.length+4*f<=1000->(∀y∈s.2,y.length<=1000)->∀y∈(gU ns f s n a).2,y.length<=1000:=by
 intro f
 induction f with
 |zero=>intro s n a _ b;simpa[gU]using b
 |succ f i=>
  intro s n a k b;have j:∀(l:List eY) (s:Bool×List er),(∀y∈s.2,y.length<=1000)->∀y∈(o9 (gU ns f) a s l).2,y.length<=1000:=by
   intro l
   induction l with
   |nil=>intro s b;simpa[o9]using b
   |cons e l d=>
    intro s b;have m:(eR e.1).length<=4:=encode_size_le e.1;have h:=i s e.2.toNat (a++eR e.1) (by rw[bF];omega) b;simpa[o9]using d _ h
  unfold gU;split
  .exact b
  .apply j
   split
   .intro y c
    simp only[dJ,cm]at c;obtain c|rfl:=c
    .exact b y c
    .omega
   .exact b
def jF(ns:List gO):List ByteArray:=(jn ns).1.map λt=>⟨t.toArray⟩
def ri(ns:List gO):∀s∈jF ns,s.size<=1000:=by
 intro s a;obtain⟨t,b,rfl⟩:=List.mem_map.1 a;have:=QN ns 13 (true,[]) 0 [] (by simp) (by simp) t b;simpa[ByteArray.size]using this
def AS(ns:List gO):(jF ns).map (·.data.toList)=(jn ns).1:=by
 unfold jF;rw[fT];simp[Function.comp_def]
def sW(n:Nat)(e:eY):Bool:=decide (1<=e.2)&&decide (e.2<n)
def jP(ns:List gO):Bool:=
 (ns.all λn=>n.bO.all (sW ns.length))&&(decide (0<ns.length)&&decide (ns.length<=721))&&rh ns&&(jn ns).2&&decide (fx (jF ns)=0)&&nL (eO (jn ns).1) ns
structure J1(w:ae)(g:Option Nat)(v:ah)(ms:List dP):Prop where
 s:Seg w 273 2 g v (xM ms) ms.length
 r:∀m∈ms,m.row w
 el:∀m∈ms,m.n.bO.length<=1000000
def J1.below{w':ae}{v:ah}{ms:List dP}(h:J1 w g v ms)(a:ai w w w'):J1 w' g v ms:=
 ⟨h.s.bH (ch a) (by simp),λm b=>(show Seg w' 303 2 m.eb m.ev _ _ from(show Seg w 303 2 m.eb m.ev _ _ from h.r m b).bH (ch a) (by simp)),h.el⟩
def jm.push{p:Nat}{v:ah}{ms:List dP}(h:jm w p g v ms)(m:dP)(L:m.row w)(F:∀x,m.eb=some x->x<p)(M:∀m∈ms,∀x,m.eb=some x->x<p)(H:∀x,g=some x->p<x)(O:ms.length<=100000):
 ∃l o t g',(∀P,(Builtin.append_ #[304,304] P #[v,av (some ⟨w,0,none⟩) 1 1]).run prog (w.alloc (aB #[aw m.n.fin,m.ev] 308 (0,0)))=.ok (av l (ms.length+1) o) t)/\
  t.heap[p]? =some (aB #[v] 306 (0,0))/\jm (t.setCell ⟨p,0,none⟩ (av l (ms.length+1) o)) p g' (av l (ms.length+1) o) (ms++ [m])/\(∀x,g'=some x->p<x)/\ai p w (t.setCell ⟨p,0,none⟩ (av l (ms.length+1) o)):=by
 have⟨V,W,I,_⟩:=Seg.len (show Seg w 303 2 m.eb m.ev _ _ from L);have⟨l,o,t,g',y,A,B,J⟩:=h.s.node m (by rw[I];rfl) O;have⟨G,q⟩:=aD (Value.slice l (ms.length+1) o);rw[<-q]at A;have K:=az h.c;have N:t.heap[p]? =_:=B.at h.c (λe=>by have:=H p (by simpa using e);omega);have d:∀x,g'=some x->p<x:=λx a=>by
  obtain e|⟨z,e,X⟩:=J
  .exact H x (by rw[<-e,a])
  .rw[a]at e
   simp only[bA]at e;subst e;omega
 have C:aQ [p] t (t.setCell ⟨p,0,none⟩ G):=(aQ.refl [p] t).setCell _ (by simp) _;have f:aQ (p::g.toList) w (t.setCell ⟨p,0,none⟩ G):=(B.mono (λx a=>by simp only[bQ];exact .inr a)).trans (C.mono (by simp));have E:∀x∈p::g.toList,p<=x:=λx a=>by
  simp only[bQ,eZ]at a;obtain rfl|a:=a
  .exact aP _
  .exact lH (H x a)
 have j:∀b,(∀x,b.eb=some x->x<p)->dP.row w b->dP.row (t.setCell ⟨p,0,none⟩ G) b:=λb Q T=>
  (show Seg w 303 2 b.eb b.ev _ _ from T).bH f λx a e=>by have:=Q x a;have:=E x e;omega
 have k:∀b∈ms++ [m],b∈ms∨b=m:=λb F=>by simpa using F
 refine⟨l,o,t,g',y,N,?_,d,?_⟩
 .rw[<-q]
  refine⟨by simpa using aE (i:=0) N G,A.bH C (λx a=>by have:=d x a;simp;omega),λb u=> ?_,λx a=>by have:=d x a;omega,λb u x a=> ?_⟩
  .obtain e|rfl:=k b u
   .exact j b (M b e) (h.r b e)
   .exact j _ F L
  .have U:x<p:=by
    obtain e|rfl:=k b u
    .exact M b e x a
    .exact F x a
   exact⟨by omega,λe=>by have:=d x e;omega⟩
 .rw[<-q]
  exact f.below E (lH K)
def qM(ns:List gO):Nat:=(ns.map λn=>n.bO.length).sum
def FX(a b:List gO):qM (a++b)=qM a+qM b:=by simp[qM]
def XQ(ns:List gO)(k:Nat)(m:gO):qM (ns.set k m)<=qM ns+m.bO.length:=by
 induction ns generalizing k with
 |nil=>simp[qM]
 |cons a l b=>
  cases k with
  |zero=>simp[qM];omega
  |succ k=>have:=b k;simp[qM]at this⊢;omega
variable{f:kT->List er->kT×Nat}
def J2(b:∀st l,xL l->qM (f st l).1.nodes<=qM st.nodes+tb l):
 ∀(n:Nat) (st:kT) (l:List er) (es:List eY),xL l->(∀y∈l,y≠[])->qM (dz f n st l es).1.nodes+(dz f n st l es).2.length<=qM st.nodes+es.length+tb l
 |0,st,l,es,_,_=>by simp[dz]
 |n+1,st,[],es,_,_=>by simp[dz]
 |n+1,st,x::l,es,c,a=>by
  have d:=a x (by simp);have h:=b st _ (nf c d);have i:=qX (l:=x::l) d;have j:=tZ x l;have k:tb (x::l)=tb ((x::l).take (jN (jE x) (x::l)))+tb ((x::l).drop (jN (jE x) (x::l))):=by rw[<-AF,mE]
  have e:=J2 b n (f st (dR x (x::l))).1 ((x::l).drop (jN (jE x) (x::l))) (es++ [(((fV x).1:Int),((f st (dR x (x::l))).2:Int))]) (c.sublist (List.drop_sublist _ _)) (λy g=>a y (nu g));rw[bF]at e;unfold dz;simp only[cG,dx]at e;omega
def Pb:∀(n:Nat) (st:kT) (l:List er),xL l->qM (dS n st l).1.nodes<=qM st.nodes+tb l
 |0,st,l,_=>by simp[dS]
 |n+1,st,l,a=>by
  unfold dS;split
  .simp
  .have h:=J2 (Pb n) (ew l).length ⟨st.nodes++ [⟨false,[]⟩],st.keys++ [oY l]⟩ (ew l) [] a.rest.1 a.rest.2
   have c:=zH l;have b:=XQ (dz (dS n) (ew l).length ⟨st.nodes++ [⟨false,[]⟩],st.keys++ [oY l]⟩ (ew l) []).1.nodes st.nodes.length ⟨tX l,(dz (dS n) (ew l).length ⟨st.nodes++ [⟨false,[]⟩],st.keys++ [oY l]⟩ (ew l) []).2⟩;simp only[FX,dx]at h b⊢;have d:qM [(⟨false,[]⟩:gO)]=0:=rfl;omega
def XR(l:List UInt8):(dec l).1<1114112:=by
 have a:∀k,bN l k<256:=λk=>(l.getD k 0).toNat_lt
 have b:=a 0;unfold dec;split
 .simp only;omega
 split
 .split<;>simp only<;>omega
 split
 .split<;>simp only<;>omega
 split
 .split
  .rename_i h
   simp only[cV]at h;have:=h.2;simp[Utf8.valid]at this;simp only;omega
  .simp only;omega
 .simp only;omega
def QO(x:List UInt8):(fV x).1<1114112:=by
 unfold fV;split
 .simp
 .exact XR _
def J3(N:Nat)(ns:List gO):Prop:=∀m∈ns,∀e∈m.bO,0<=e.1/\e.1<1114112/\0<=e.2/\e.2<N
def J4{N:Nat}(i:∀st l,xL l->st.nodes.length=st.keys.length->st.nodes.length+1+tb l<=N->J3 N st.nodes->J3 N (f st l).1.nodes/\(f st l).2<N)
 (j:∀st l,xL l->(f st l).1.nodes.length<=st.nodes.length+1+tb l/\((f st l).1.nodes.length=(f st l).1.keys.length↔st.nodes.length=st.keys.length)):
 ∀(n:Nat) (st:kT) (l:List er) (es:List eY),xL l->(∀y∈l,y≠[])->st.nodes.length=st.keys.length->st.nodes.length+tb l<=N->J3 N st.nodes->(∀e∈es,0<=e.1/\e.1<1114112/\0<=e.2/\e.2<N)->
  J3 N (dz f n st l es).1.nodes/\∀e∈(dz f n st l es).2,0<=e.1/\e.1<1114112/\0<=e.2/\e.2<N
 |0,st,l,es,_,_,_,_,a,b=>by rw[dz];exact⟨a,b⟩
 |n+1,st,[],es,_,_,_,_,a,b=>by rw[dz];exact⟨a,b⟩
 |n+1,st,x::l,es,g,c,k,q,a,b=>by
  have h:=c x (by simp);have r:=qX (l:=x::l) h;have s:=tZ x l;have t:tb (x::l)=tb ((x::l).take (jN (jE x) (x::l)))+tb ((x::l).drop (jN (jE x) (x::l))):=by rw[<-AF,mE]
  have m:=i st (dR x (x::l)) (nf g h) k (by omega) a;have o:=j st (dR x (x::l)) (nf g h);unfold dz;refine J4 i j n _ _ _ (g.sublist (List.drop_sublist _ _)) (λy p=>c y (nu p)) (o.2.2 k) (by omega) m.1 (λe d=> ?_);rw[dJ,cm]at d;obtain d|rfl:=d
  .exact b e d
  .have:=QO x
   have:=m.2;refine⟨?_,?_,?_,?_⟩<;>simp only<;>omega
def Pc{N:Nat}:∀(n:Nat) (st:kT) (l:List er),xL l->st.nodes.length=st.keys.length->st.nodes.length+1+tb l<=N->J3 N st.nodes->J3 N (dS n st l).1.nodes/\(dS n st l).2<N
 |0,st,l,_,_,g,b=>by simpa[dS]using⟨b,by omega⟩
 |n+1,st,l,c,d,j,b=>by
  unfold dS;split
  .rename_i i e
   have:=JM e;exact⟨b,by simp only;omega⟩
  .have k:=zH l
   have h:=J4 (Pc (N:=N) n) (nI n) (ew l).length ⟨st.nodes++ [⟨false,[]⟩],st.keys++ [oY l]⟩ (ew l) [] c.rest.1 c.rest.2 (by simp[d]) (by simp;omega) (λm a=>by
    simp only[dJ,cm]at a;obtain a|rfl:=a
    .exact b m a
    .simp) (by simp)
   refine⟨λm a=> ?_,by simp only;omega⟩;obtain a|rfl:=jC a
   .exact h.1 m a
   .exact h.2
def xk{ws:List ByteArray}(h:fx ws=0):(eO (ws.map (·.data.toList))).length<=2881/\qM (eO (ws.map (·.data.toList)))<=2880/\J3 2881 (eO (ws.map (·.data.toList))):=by
 have⟨d,e,a⟩:=rR h;have g:tb (ws.map (·.data.toList))<=48*(ws.map (·.data.toList)).length:=Up λy i=>by
  obtain⟨s,c,rfl⟩:=List.mem_map.1 i;exact nh (e s c)
 rw[cr]at g;unfold eO;split
 .exact⟨by simp,by simp[qM],λm b=>by simp only[cm]at b;subst b;simp⟩
 .have j:=(nI 100 ⟨[],[]⟩ _ a).1
  have k:=Pb 100 ⟨[],[]⟩ _ a;have l:=Pc (N:=2881) 100 ⟨[],[]⟩ _ a rfl (by simp;omega) (λm b=>by simp at b);simp only[dx,eJ]at j;have n:qM ([]:List gO)=0:=rfl;simp only[n,eJ]at k;exact⟨by omega,by omega,l.1⟩
def AT(e:eY):List Int:=dA e.1 4++dA e.2 2
def Ek(n:gO):List Int:=dA (if n.fin then 1 else 0) 1++dA n.bO.length 2
def El(n:gO):List Int:=Ek n++n.bO.flatMap AT
def o_(ns:List gO):List Int:=[73,78,75,49]++dA ns.length 2++ns.flatMap El
def uj(ns:List gO):List Int:=o_ ns++dA (l_ (o_ ns)) 4
def QP(e:eY):(AT e).length=6:=by simp[AT,dA]
def AU(l:List eY):(l.flatMap AT).length=6*l.length:=by
 induction l with
 |nil=>rfl
 |cons a l b=>rw[eI,bF,b,QP,cG];omega
def QQ(n:gO):(Ek n).length=3:=by simp[Ek,dA]
def QR(n:gO):(El n).length=3+6*n.bO.length:=by rw[El,bF,QQ,AU]
def AV(l:List gO):(l.flatMap El).length=3*l.length+6*qM l:=by
 induction l with
 |nil=>rfl
 |cons a l b=>
  have:qM (a::l)=a.bO.length+qM l:=by simp[qM]
  rw[eI,bF,b,QR,cG,this];omega
def QS(l:List gO):(o_ l).length=6+3*l.length+6*qM l:=by
 rw[o_,bF,AV];simp[dA];omega
def QT(l:List gO):(uj l).length=10+3*l.length+6*qM l:=by
 rw[uj,bF,QS];simp[dA];omega
def J5(l:List gO)(k:Nat):qM (l.take k)<=qM l:=by
 have h:qM l=qM (l.take k)+qM (l.drop k):=by rw[<-FX,mE]
 omega
def XS(l:List gO)(k:Nat)(h:k<l.length):qM (l.take k)+(l.getD k ()).bO.length<=qM l:=by
 have e:l.take (k+1)=l.take k++ [l.getD k ()]:=by rw[fG h];simp[aU,h]
 have a:=J5 l (k+1);rw[e,FX]at a;have:qM [l.getD k ()]=(l.getD k ()).bO.length:=by simp[qM]
 omega
def Em:List Int:=[73,78,75,49]
def nM(bs:List Int):Nat->Nat×Bool->List eY->List eY×(Nat×Bool)
 |0,s,es=>(es,s)
 |k+1,s,es=>if s.2 then(es,s)else
  nM bs k (eW bs 2 ((eW bs 4 s).2.1,(eW bs 4 s).2.2||decide (1114111<(eW bs 4 s).1))).2
   (es++ [(IntKind.i32.wrap (eW bs 4 s).1,(eW bs 2 ((eW bs 4 s).2.1,(eW bs 4 s).2.2||decide (1114111<(eW bs 4 s).1))).1)])
def AW(bs:List Int)(s:Nat×Bool):gO×(Nat×Bool):=
 let r:=eW bs 1 s
 let c:=eW bs 2 (r.2.1,r.2.2||decide (1<r.1))
 let e:=nM bs c.1.toNat c.2 []
 (⟨r.1==1,e.1⟩,e.2)
def oH(bs:List Int):Nat->Nat×Bool->List gO->List gO×(Nat×Bool)
 |0,s,ns=>(ns,s)
 |k+1,s,ns=>if s.2 then(ns,s)else oH bs k (AW bs s).2 (ns++ [(AW bs s).1])
def CO(bs:List Int):List gO×(Nat×Bool):=oH bs (eW bs 2 (4,false)).1.toNat (eW bs 2 (4,false)).2 []
def iz(bs:List Int):Option (List gO)×Int:=
 if bs.length<4 then(none,9)
 else if oD bs (bs.length-4) 4≠l_ (bs.take (bs.length-4))then(none,9)
 else if bs.length-4<4∨bs.take 4≠Em then(none,8)
 else if(CO (bs.take (bs.length-4))).2.2=true∨(CO (bs.take (bs.length-4))).2.1≠bs.length-4 then(none,8)
 else if jP (CO (bs.take (bs.length-4))).1 then(some (eO (jn (CO (bs.take (bs.length-4))).1).1),0)else(none,8)
def jo(ws:List ByteArray):List Int:=if fx ws=0 then uj (eO (ws.map (·.data.toList)))else []
def jq(c:aV)(s:Int):List Int:=if cP s 0 (aZ c-1)=true then jo (mM c.cuts c.words s)else []
structure sD where
 s:Int
 good:List Int
 now:List Int
deriving Inhabited
def Uw(good:List Int)(a x:Int):List Int:=good.set (qq a good.length) (oE (good.getD (qq a good.length) 0) x)
def sD.Ux(i:sD)(a x:Int):sD:={i with now:=Uw i.good a x}
def sD.mend(i:sD):sD:={i with now:=i.good}
def mU(ns:List gO)(q:List Int)(d:Int):Nat->Nat->List Int->er->List er
 |0,_,_,_=> []
 |f+1,n,p,a=>(if(ns.getD n ()).fin=true/\(ZS.lU q p:Int)=d then [a]else [])++
  (ns.getD n ()).bO.flatMap λe=>if qD.S q (p++ [e.1]) d=[]then []else mU ns q d f e.2.toNat (p++ [e.1]) (a++eR e.1)
structure lu where
 l:List aY
 more:Bool
def lu.add(first:Bool)(after:aY)(batch:Nat)(d:Int)(s:lu)(w:er):lu:=
 if s.more then s
 else if !first&& !cR after (d,⟨w.toArray⟩)then s
 else if s.l.length=batch then⟨s.l,true⟩
 else⟨s.l++ [(d,⟨w.toArray⟩)],false⟩
def jr(ns:List gO)(q:List Int)(first:Bool)(after:aY)(batch:Nat):Nat->lu
 |0=>⟨[],false⟩
 |k+1=>(mU ns q (k:Int) 13 0 [] []).foldl (lu.add first after batch (k:Int)) (jr ns q first after batch k)
def nN(s:ByteArray):List Int:=((kq s.data.toList).getD []).map λr:Nat=>(r:Int)
def fO(g:Option (List gO))(text:ByteArray)(k:Int)(first:Bool)(after:aY)(batch:Int):List aY×Bool:=
 match g with
 |none=>([],true)
 |some ns=>if 0<=k/\k<=4/\iA text.data.toList=true then
  ((jr ns (nN text) first after batch.toNat (k.toNat+1)).l,!(jr ns (nN text) first after batch.toNat (k.toNat+1)).more)else([],true)
structure SB where
 s:Int
 g:Option (List gO)
 e:Int
deriving Inhabited
structure gL where
 id:Int
 aW:Int
 life:Int
 up:Bool
 cN:List sD
 QU:List SB
 q:List cf
deriving Inhabited
def oI(w:gL):gL:={w with life:=w.life+1,up:=true,aW:=0,q:=[],QU:=w.cN.map λi=>⟨i.s,(iz i.now).1,(iz i.now).2⟩}
def vx(c:aV)(id:Int):List sD:=(fw c id).map λs=>⟨s,jq c s,jq c s⟩
def qz(c:aV)(id:Int):gL:=oI ⟨id,0,0,false,vx c id,[],[]⟩
def eL(w:gL):gL:=if w.up then{w with up:=false}else w
def gV(w:gL):gL:=if w.up then w else oI w
def lL(w:gL)(s:Int):Option (List gO):=match w.QU.find? (·.s==s)with|some x=>x.g|none=>none
def dD(w:gL)(m:cd):gL:=
 if w.up then match m with
  | .grant x life aW=>if x=w.id/\life=w.life/\w.aW<aW then{w with aW:=aW}else w
  | .ask a=>if nG a=true/\a.aW=w.aW/\0<a.aW/\(lL w a.aR).isSome=true then{w with q:=jA w.q a}else w
  | .stop s q=>{w with q:=dy w.q s q}
  |_=>w
 else w
def jz(w:gL)(a:cf):lr:=
 ⟨a.slot,a.query,a.aR,a.seq,w.id,w.aW,(fO (lL w a.aR) a.text a.k a.first (a.jk,a.word) a.batch).1,(fO (lL w a.aR) a.text a.k a.first (a.jk,a.word) a.batch).2⟩
structure fF where
 dst:Int
 m:cd
def dO(w:gL):gL×List fF:=
 if w.up then
  if 0<w.aW then match w.q with
   |a::q=>({w with q:=q},[⟨0,.dj (jz w a)⟩])
   | []=>(w,[⟨0,.eu w.id w.life⟩])
  else(w,[⟨0,.eu w.id w.life⟩])
 else(w,[])
section
open mX
structure En where
 turn:Int
 kU:Int
 first:Int
 cZ:Bool
deriving Inhabited
structure ej where
 id:Int
 slot:Int
 text:ByteArray
 k:Int
 n:Int
 ss:List jv
 mt:List aY
 sh:List En
structure bZ where
 id:Int
 text:ByteArray
 k:Int
 n:Int
 items:List aY
 done:Bool
 cancelled:Bool
instance:Inhabited bZ:=⟨⟨0,ByteArray.empty,0,0,[],false,false⟩⟩
structure cB where
 now:Int
 L:List qF
 who:List Int
 last:Int
 T:Int->Option Int
 tn:Nat
 qs:List ej
 told:List bZ
variable(c:aV)
def cB.q(x:cB)(id:Int):Option ej:=x.qs.find? (·.id==id)
def nO(qs:List ej)(y:ej):List ej:=qs.map λz=>if z.id=y.id then y else z
def cB.put(x:cB)(y:ej):cB:={x with qs:=nO x.qs y}
def cB.tell(x:cB)(id:Int)(f:bZ->bZ):cB:={x with told:=x.told.set (id-1).toNat (f (x.told.getD (id-1).toNat default))}
def bY(slot s:Int):Int:=6*slot+s
def dE(t:(Int->Option Int)×Nat)(id:Int):(Int->Option Int)×Nat:=(sd t.1 id none,if(t.1 id).isSome then t.2-1 else t.2)
def pd(t:(Int->Option Int)×Nat)(id at':Int):(Int->Option Int)×Nat:=(sd t.1 id (some at'),if(t.1 id).isSome then t.2 else t.2+1)
def cB.cancels(x:cB)(slot:Int)(n:Nat):cB:={x with T:=((List.range n).foldl (λt (s:Nat)=>dE t (bY slot (s:Int))) (x.T,x.tn)).1,tn:=((List.range n).foldl (λt (s:Nat)=>dE t (bY slot (s:Int))) (x.T,x.tn)).2}
def js(x:cB)(y:ej):cB×List fF:=
 ({x.cancels y.slot (aZ c).toNat with who:=qR x.who y.id,qs:=x.qs.filter λz=>z.id !=y.id},(List.range c.workers.toNat).map λw:Nat=>⟨(w:Int)+1,.stop y.slot y.id⟩)
def eG(x:cB)(y:ej):cB×List fF:=
 let r:=dK y.n (cY y.ss) y.ss y.mt []
 let y':={y with ss:=r.1,mt:=r.2.1}
 let x':=(x.put y').tell y.id λt=>{t with items:=t.items++r.2.2}
 if jM y.n r.1 r.2.1 then js c (x'.tell y.id λt=>{t with done:=true}) y' else(x',[])
def rj(s:Nat)(text:ByteArray)(k:Int):Int:=if k<uY c.cuts s (iX text.data.toList)then-1 else uY c.cuts s (iX text.data.toList)
def AX(d:Int):jv:=⟨d,0,decide (d<0),false,(0,ByteArray.empty),[]⟩
def lD(id slot:Int)(text:ByteArray)(k n:Int):ej:=
 ⟨id,slot,text,k,n,(List.range (aZ c).toNat).map λs=>AX (rj c s text k),[],List.replicate 6 ⟨0,0,0,false⟩⟩
def dq(x:cB)(text:ByteArray)(k n:Int):cB×(Int×Int)×List fF:=
 let r:=jD (ie text k n) x.who x.last
 if r.1=3 then
  let y:=lD c r.2.1 r.2.2 text k n
  let z:=eG c {x with who:=CC (ie text k n) x.who x.last,last:=CD (ie text k n) x.who x.last,qs:=x.qs++ [y],told:=x.told++ [⟨r.2.1,text,k,n,[],false,false⟩]} y
  (z.1,(r.1,r.2.1),z.2)
 else(x,(r.1,r.2.1),[])
def cX(x:cB)(id:Int):cB×List fF:=
 match x.q id with
 |none=>(x,[])
 |some y=>js c (x.tell id λt=>{t with cancelled:=true}) y
def AY(x:cB):cB:={x with now:=min (x.now+1) 1099511627776}
def pe(x:cB)(worker life:Int):cB×List fF:=
 let r:=mK c.workers c.aS x.L worker life x.now
 ({x with L:=r.2.2},if r.2.1=0 then [⟨worker,.grant worker life r.1⟩]else [])
def eX(x:cB)(r:lr):cB×List fF:=
 if !nJ r||(mC x.who r.slot !=some r.query||(decide (aZ c<=r.aR)|| !(bR c r.aR).contains r.worker))then(x,[])else
 match x.q r.query with
 |none=>(x,[])
 |some y=>
  if r.items.any (λi=>decide (y.k<i.1))|| !l8 c.workers x.L r.worker r.aW then(x,[])else
  match qt y.n y.ss y.mt r.aR r.seq r.items r.fin with
  |none=>({x with L:=kB c.workers c.aS x.L r.worker r.aW x.now},[])
  |some ss=>
   let t:=dE (x.T,x.tn) (bY y.slot r.aR)
   eG c {x with L:=kB c.workers c.aS x.L r.worker r.aW x.now,T:=t.1,tn:=t.2} {y with ss:=ss}
def dU(x:cB)(m:cd):cB×List fF:=
 match m with
 | .eu w l=>pe c x w l
 | .dj r=>eX c x r
 |_=>(x,[])
def kD(x:cB)(y:ej)(s:Nat)(turn:Int):List fF:=
 let l:=bR c s
 let w:=l.getD (turn%(l.length:Int)).toNat 0
 let e:=mJ c.workers x.L w
 let a:=jl y.ss s
 if e=0 then []else [⟨w,.ask ⟨y.slot,y.id,s,TZ y.ss s,e,y.text,y.k,c.batch,!a.2,a.1.1,a.1.2⟩⟩]
def setH(y:ej)(s:Nat)(h:En):ej:={y with sh:=y.sh.set s h}
def cL(x:cB)(y:ej)(s:Nat)(draw:Int):cB×ej×List fF:=
 let id:=bY y.slot s
 let h:=y.sh.getD s ()
 let go (h:En):cB×ej×List fF:=
  let t:=pd (x.T,x.tn) id (min (x.now+kC c.first c.cap c.b_ h.kU draw) 1099511627776)
  ({x with T:=t.1,tn:=t.2},setH y s h,kD c x y s h.turn)
 match x.T id with
 |none=>go ⟨max (kQ ((bR c s).map λw=>qo c.workers x.L w x.now)) 0,0,x.now,false⟩
 |some a=>
  if a<=x.now then go ⟨h.turn+1,mi h.kU,h.first,h.cZ⟩
  else if h.cZ=false/\c.dY<=x.now-h.first then(x,setH y s {h with cZ:=true},kD c x y s (h.turn+1))
  else(x,y,[])
def dL(draw:Int):List Int->cB->ej->List fF->cB×ej×List fF
 | [],x,y,l=>(x,y,l)
 |s::r,x,y,l=>dL draw r (cL c x y s.toNat draw).1 (cL c x y s.toNat draw).2.1 (l++(cL c x y s.toNat draw).2.2)
def lE(x:cB)(slot:Nat)(draw:Int)(l:List fF):cB×List fF:=
 match mC x.who slot with
 |none=>(x,l)
 |some id=>match x.q id with
  |none=>(x,l)
  |some y=>
   let r:=dL c draw (ki y.n y.ss y.mt) x y l
   (r.1.put r.2.1,r.2.2)
def dM(x:cB)(draw:Int):Nat->cB×List fF
 |0=>(x,[])
 |k+1=>lE c (dM x draw k).1 k draw (dM x draw k).2
def iD(x:cB)(draw:Int):cB×List fF:=dM c x draw c.slots.toNat
def xm:cB:=⟨0,List.replicate 6 ⟨0,0,0⟩,List.replicate c.slots.toNat 0,0,λ_=>none,0,[],[]⟩
structure cO where
 kind:Int
 node:Int
 at':Int
 x:Int
 text:ByteArray
 k:Int
 n:Int
instance:Inhabited cO:=⟨⟨0,0,0,0,ByteArray.empty,0,0⟩⟩
structure cS where
 ev:cO
 verdict:Int
 id:Int
 sent:List (Int×Int×Int)
 got:Int
 lost:List Int
instance:Inhabited cS:=⟨⟨default,0,0,[],0,[]⟩⟩
structure di where
 co:cB
 ws:List gL
 next:Int
 net:List GV
def di.wk(x:di)(i:Int):Option gL:=if 1<=i/\i<=x.ws.length then some (x.ws.getD (i-1).toNat default)else none
def di.set(x:di)(i:Int)(w:gL):di:={x with ws:=x.ws.set (i-1).toNat w}
def di.upd(x:di)(i:Int)(f:gL->gL):di:=match x.wk i with|some w=>x.set i (f w)|none=>x
def cF(lh:Int)(s:di×cS)(y:fF):di×cS:=
 if y.m.may then
  ({s.1 with next:=s.1.next+1,net:=sx c.net s.1.net ⟨s.1.next,lh,y.dst,y.m.frame,false⟩},
   {s.2 with sent:=s.2.sent++ [(s.1.next,lh,y.dst)],lost:=if(s.1.net.length:Int)<c.net then s.2.lost else s.2.lost++ [s.1.next]})
 else s
def dh(x:di)(r:cS)(lh:Int)(l:List fF):di×cS:=l.foldl (cF c lh) (x,r)
def lM(x:di)(dst:Int):Bool:=if dst=0 then true else match x.wk dst with|some w=>w.up|none=>false
def fL(x:di)(dst:Int)(m:cd):di×List fF:=
 if dst=0 then({x with co:=(dU c x.co m).1},(dU c x.co m).2)
 else(x.upd dst λw=>dD w m,[])
def eE(x:di)(r:cS)(i:Int):di×cS:=
 if qm x.net.length i then
  let g:=ij x.net i
  let x:={x with net:=gG x.net i}
  match(sQ g.fr).1 with
  |none=>(x,{r with lost:=r.lost++ [g.id]})
  |some m=>
   if lM x g.tO then
    let t:=fL c x g.tO m
    dh c t.1 (if g.sp then{r with lost:=r.lost++ [g.id]}else{r with got:=g.id}) g.tO t.2
   else(x,{r with lost:=r.lost++ [g.id]})
 else(x,r)
def gM(x:di)(node draw:Int):di×List fF:=
 if node=0 then({x with co:=(iD c x.co draw).1},(iD c x.co draw).2)
 else match x.wk node with
  |some w=>(x.set node (dO w).1,(dO w).2)
  |none=>(x,[])
def Ng(e:cO)(i:sD):sD:=if i.s=e.at' then(if e.kind=12 then i.mend else i.Ux (low e.x 4096) (IntKind.u64.wrap e.x/4096))else i
def gH(e:cO)(w:gL):gL:={w with cN:=w.cN.map (Ng e)}
def FY(most:Int)(L:List GV)(i:Int):List GV:=pK L most i
def cM(x:di)(r:cS)(e:cO):di×cS:=
 if e.kind=1 then
  let s:=dq c x.co e.text e.k e.n
  dh c {x with co:=s.1} {r with verdict:=s.2.1.1,id:=s.2.1.2} 0 s.2.2
 else if e.kind=2 then dh c {x with co:=(cX c x.co e.at').1} r 0 (cX c x.co e.at').2
 else if e.kind=3 then({x with co:=AY x.co},r)
 else if e.kind=4 then(if 0<=e.node/\e.node<=x.ws.length then dh c (gM c x e.node e.x).1 r e.node (gM c x e.node e.x).2 else(x,r))
 else if e.kind=5 then eE c x r e.at'
 else if e.kind=6 then(if qm x.net.length e.at' then({x with net:=gG x.net e.at'},{r with lost:=r.lost++ [(ij x.net e.at').id]})else(x,r))
 else if e.kind=7 then({x with net:=FY c.net x.net e.at'},r)
 else if e.kind=8 then({x with net:=sL x.net e.at' e.node e.x},r)
 else if e.kind=9 then(x.upd e.node eL,r)
 else if e.kind=10 then(x.upd e.node gV,r)
 else if e.kind=11∨e.kind=12 then(x.upd e.node (gH e),r)
 else(x,r)
def bC(x:di)(e:cO):di×cS:=cM c x ⟨e,0,0,[],-1,[]⟩ e
def gA:di:=⟨xm c,(List.range c.workers.toNat).map λi:Nat=>qz c ((i:Int)+1),0,[]⟩
def cT:di->List cO->di×List cS
 |x,[]=>(x,[])
 |x,e::l=>((cT (bC c x e).1 l).1,(bC c x e).2::(cT (bC c x e).1 l).2)
end
section
open mX
structure iH(c:aV)(B:Int)(x:cB)(y:ej):Prop where
 at':mC x.who y.slot=some y.id
 n1:1<=y.n
 n2:y.n<=10
 k0:0<=y.k
 k4:y.k<=4
 tx:iA y.text.data.toList=true
 sl:y.ss.length=(aZ c).toNat
 hl:y.sh.length=6
 hs:∀h∈y.sh,0<=h.turn/\h.turn<=B+3/\0<=h.first/\h.first<=x.now
structure cI(c:aV)(B:Int)(x:cB):Prop where
 may:fX c=true
 sl:jU x.who x.last
 wl:x.who.length=c.slots.toNat
 lb:x.last<=B
 n0:0<=x.now
 n1:x.now<=1099511627776
 tl:(x.told.length:Int)=x.last
 qy:∀y∈x.qs,iH c B x y
 nd:(x.qs.map ej.id).Nodup
 full:∀k id,mC x.who k=some id->∃y∈x.qs,y.id=id
 tm:∀id,(x.T id).isSome=true->0<=id/\id<24
variable{c:aV}{B:Int}{x:cB}
variable{y:ej}
def jQ{a:List ej}{id:Int}(h:a.find? (·.id==id)=some y):y∈a/\y.id=id:=
 ⟨List.mem_of_find?_eq_some h,by simpa using List.find?_some h⟩
def FZ{d:List ej}(f:(d.map ej.id).Nodup)(b:y∈d):d.find? (·.id==y.id)=some y:=by
 induction d with
 |nil=>simp at b
 |cons a l g=>
  rw[gi,ji]at f;obtain rfl|b:=List.mem_cons.1 b
  .simp
  .have:a.id≠y.id:=λe=>f.1 (e▸List.mem_map.2 ⟨y,b,rfl⟩)
   rw[jg (by simpa using this)];exact g f.2 b
def Pd{a:List ej}(b:(a.map ej.id).Nodup){z:ej}(f:y∈a)(g:z∈a)(e:y.id=z.id):y=z:=by
 have d:=FZ b f;have h:=FZ b g;rw[e,h]at d;exact(Option.some.inj d).symm
def iH.mono(h:iH c B x y){B':Int}(b:B<=B'):iH c B' x y:=⟨h.at',h.n1,h.n2,h.k0,h.k4,h.tx,h.sl,h.hl,λz a=>by have:=h.hs z a;omega⟩
def cI.mono(h:cI c B x){B':Int}(a:B<=B'):cI c B' x:=⟨h.may,h.sl,h.wl,by have:=h.lb;omega,h.n0,h.n1,h.tl,λy b=>(h.qy y b).mono a,h.nd,h.full,h.tm⟩
def iH.slot(h:iH c B x y)(f:jU x.who x.last):0<=y.slot/\y.slot.toNat<x.who.length/\0<y.id/\y.id<=x.last:=by
 have⟨g,_⟩:=OL f h.at';have⟨a,b,d,_,e⟩:=OJ f g;exact⟨a,b,d,e⟩
def cI.four(h:cI c B x):x.who.length<=4:=by
 have:=(aV.bounds h.may).s2;have:=h.wl;omega
def rn{t:(Int->Option Int)×Nat}{id i:Int}(h:((dE t id).1 i).isSome=true):(t.1 i).isSome=true:=by
 unfold dE sd at h;simp only at h;split at h
 .cases h
 .exact h
def xn{slot:Int}:∀(l:List Nat) (t:(Int->Option Int)×Nat) {i:Int},((l.foldl (λt s=>dE t (bY slot (s:Nat))) t).1 i).isSome=true->(t.1 i).isSome=true
 | [],_,_,h=>h
 |a::l,t,i,h=>rn (xn l _ h)
def Pe(h:cI c B x)(o:y∈x.qs):cI c B (js c x y).1:=by
 have m:=h.qy y o;have⟨i,_⟩:=OL h.sl m.at';have⟨s,p,t,_,_⟩:=OJ h.sl i;have j:qR x.who y.id=x.who.set y.slot.toNat 0:=by unfold qR;rw[i]
 have d:=Jf h.sl i;unfold js cB.cancels;refine⟨h.may,by simp only;rw[j];exact h.sl.free _ p,by simp only;rw[j,ds];exact h.wl,h.lb,h.n0,h.n1,h.tl,λz f=> ?_,?_,λk id b=> ?_,λid q=> ?_⟩
 .simp only[Fl,bne_iff_ne]at f
  have a:=h.qy z f.1;refine⟨?_,a.n1,a.n2,a.k0,a.k4,a.tx,a.sl,a.hl,a.hs⟩;simp only;rw[j,d,aC]
  .exact a.at'
  .intro e
   have g:=a.at';rw[e,m.at']at g;exact f.2 (Option.some.inj g).symm
 .exact h.nd.sublist ((List.filter_sublist).map _)
 .simp only at b⊢
  rw[j,d]at b;split at b
  .cases b
  .rename_i l
   have⟨z,f,e⟩:=h.full k id b;refine⟨z,?_,e⟩;simp only[Fl,bne_iff_ne];refine⟨f,λr=>l ?_⟩;have g:=(OL h.sl b).1;rw[<-e,r,i]at g;exact(Option.some.inj g).symm
 .exact h.tm id (xn _ _ q)
def AZ(a:List ej)(y:ej):(nO a y).map ej.id=a.map ej.id:=by
 unfold nO;rw[fT];apply jh;intro z _;simp only[Function.comp_apply];split
 .rename_i h;exact h.symm
 .rfl
def rp{b:List ej}{z:ej}(h:z∈nO b y):z=y∨(z∈b/\z.id≠y.id):=by
 unfold nO at h;have⟨a,d,e⟩:=List.mem_map.1 h;split at e
 .exact .inl e.symm
 .rename_i f;subst e;exact .inr ⟨d,f⟩
def F0{a:List ej}{y0:ej}(h:y0∈a)(e:y0.id=y.id):y∈nO a y:=List.mem_map.2 ⟨y0,h,by rw[aI e]⟩
def Uy{a:List ej}{z:ej}(h:z∈a)(e:z.id≠y.id):z∈nO a y:=List.mem_map.2 ⟨z,h,by rw[aC e]⟩
def Nh(h:cI c B x){y0:ej}(f:y0∈x.qs)(g:y0.id=y.id)(a:iH c B x y):cI c B (x.put y):=by
 refine⟨h.may,h.sl,h.wl,h.lb,h.n0,h.n1,h.tl,λz b=> ?_,?_,λk id i=> ?_,h.tm⟩
 .obtain rfl|⟨j,_⟩:=rp b
  .exact⟨a.at',a.n1,a.n2,a.k0,a.k4,a.tx,a.sl,a.hl,a.hs⟩
  .have:=h.qy z j
   exact⟨this.at',this.n1,this.n2,this.k0,this.k4,this.tx,this.sl,this.hl,this.hs⟩
 .show((nO x.qs y).map ej.id).Nodup
  rw[AZ];exact h.nd
 .have⟨z,b,e⟩:=h.full k id i
  by_cases d:z.id=y.id
  .exact⟨y,F0 f g,by rw[<-d,e]⟩
  .exact⟨z,Uy b d,e⟩
def um(h:cI c B x)(id:Int)(f:bZ->bZ):cI c B (x.tell id f):=by
 refine⟨h.may,h.sl,h.wl,h.lb,h.n0,h.n1,?_,λz a=> ?_,h.nd,h.full,h.tm⟩
 .show((List.set _ _ _).length:Int)=_
  rw[ds];exact h.tl
 .have:=h.qy z a
  exact⟨this.at',this.n1,this.n2,this.k0,this.k4,this.tx,this.sl,this.hl,this.hs⟩
def vz(n:Int):∀(f:Nat) (a:List jv) (told out:List aY),(dK n f a told out).1.length=a.length
 |0,_,_,_=>rfl
 |f+1,a,told,out=>by
  unfold dK;split
  .rfl
  .rw[vz n f,ds]
def Pf(h:cI c B x){y0:ej}(d:y0∈x.qs)(e:y0.id=y.id)(a:iH c B x y):cI c B (eG c x y).1:=by
 have b:iH c B x {y with ss:=(dK y.n (cY y.ss) y.ss y.mt []).1,mt:=(dK y.n (cY y.ss) y.ss y.mt []).2.1}:=
  ⟨a.at',a.n1,a.n2,a.k0,a.k4,a.tx,by simp only;rw[vz];exact a.sl,a.hl,a.hs⟩
 have h1:=Nh h d (y:={y with ss:=(dK y.n (cY y.ss) y.ss y.mt []).1,mt:=(dK y.n (cY y.ss) y.ss y.mt []).2.1}) e b;unfold eG;simp only;split
 .exact Pe (um (um h1 _ _) _ _) (F0 d e)
 .simp only
  exact um h1 _ _
def XT(h:cI c B x):cI c B (AY x):=by
 have d:=h.n0;have e:=h.n1;refine⟨h.may,h.sl,h.wl,h.lb,by unfold AY;simp only;omega,by unfold AY;simp only;omega,h.tl,λy a=> ?_,h.nd,h.full,h.tm⟩;have:=h.qy y a;exact⟨this.at',this.n1,this.n2,this.k0,this.k4,this.tx,this.sl,this.hl,λz b=>by have:=this.hs z b;unfold AY;simp only;omega⟩
def cI.aS(h:cI c B x)(L:List qF):cI c B {x with L:=L}:=
 ⟨h.may,h.sl,h.wl,h.lb,h.n0,h.n1,h.tl,λy a=>by have:=h.qy y a;exact⟨this.at',this.n1,this.n2,this.k0,this.k4,this.tx,this.sl,this.hl,this.hs⟩,h.nd,h.full,h.tm⟩
def cI.time(h:cI c B x){T:Int->Option Int}(a:∀id,(T id).isSome=true->0<=id/\id<24)(n:Nat):cI c B {x with T:=T,tn:=n}:=
 ⟨h.may,h.sl,h.wl,h.lb,h.n0,h.n1,h.tl,λy b=>by have:=h.qy y b;exact⟨this.at',this.n1,this.n2,this.k0,this.k4,this.tx,this.sl,this.hl,this.hs⟩,h.nd,h.full,a⟩
def XU(h:cI c B x)(w l:Int):cI c B (pe c x w l).1:=h.aS _
def QV(h:cI c B x)(id:Int):cI c B (cX c x id).1:=by
 unfold cX;split
 .exact h
 .rename_i y a
  exact Pe (um h _ _) (jQ a).1
def Uz(h:cI c B x)(r:lr):cI c B (eX c x r).1:=by
 unfold eX;split
 .exact h
 split
 .exact h
 .rename_i y e
  have⟨d,hid⟩:=jQ e;have b:=h.qy y d;split
  .exact h
  split
  .exact h.aS _
  .rename_i f a
   have g:f.length=y.ss.length:=by
    unfold qt at a;split at a
    .cases a
    .split at a
     .simp only[bA]at a
      rw[<-a,ds]
     .cases a
   have i:=(h.aS (kB c.workers c.aS x.L r.worker r.aW x.now)).time (T:=(dE (x.T,x.tn) (bY y.slot r.aR)).1) (λid j=>h.tm id (rn j)) (dE (x.T,x.tn) (bY y.slot r.aR)).2;exact Pf i d rfl ⟨b.at',b.n1,b.n2,b.k0,b.k4,b.tx,by simp only;rw[g];exact b.sl,b.hl,b.hs⟩
def XV(h:cI c B x)(m:cd):cI c B (dU c x m).1:=by
 unfold dU;split
 .exact XU h _ _
 .exact Uz h _
 .exact h
variable{k n:Int}
def vA{s:ByteArray}(h:ie s k n=true):iA s.data.toList=true/\0<=k/\k<=4/\1<=n/\n<=10:=by
 unfold ie at h;simp only[cV,ei]at h;exact⟨h.1.1.1.1,h.1.1.1.2,h.1.1.2,h.1.2,h.2⟩
def qI(c:aV)(x:cB)(text:ByteArray)(k n:Int):cB:=
 {x with who:=x.who.set (cK x.who) (x.last+1),last:=x.last+1,qs:=x.qs++ [lD c (x.last+1) (cK x.who) text k n],told:=x.told++ [⟨x.last+1,text,k,n,[],false,false⟩]}
def iO{text:ByteArray}(h:(jD (ie text k n) x.who x.last).1≠3):dq c x text k n=(x,((jD (ie text k n) x.who x.last).1,(jD (ie text k n) x.who x.last).2.1),[]):=by
 unfold dq;simp only;rw[aC h]
def nP{m:Bool}{a:List Int}{b:Int}(h:(jD m a b).1=3):m=true/\cntF a≠a.length/\jD m a b=(3,b+1,(cK a:Int))/\CC m a b=a.set (cK a) (b+1)/\CD m a b=b+1:=by
 unfold jD at h;unfold jD CC CD;cases m
 .simp at h
 .by_cases d:cntF a=a.length
  .simp[d]at h
  .simp[d]
def iJ{text:ByteArray}(h:(jD (ie text k n) x.who x.last).1=3):
 dq c x text k n=((eG c (qI c x text k n) (lD c (x.last+1) (cK x.who) text k n)).1,(3,x.last+1),(eG c (qI c x text k n) (lD c (x.last+1) (cK x.who) text k n)).2):=by
 have⟨_,_,a,b,d⟩:=nP h;unfold dq;simp only;rw[aI h,a,b,d];rfl
def F2(h:cI c B x){text:ByteArray}(r:ie text k n=true)(s:cntF x.who≠x.who.length):cI c (B+1) (qI c x text k n)/\iH c (B+1) (qI c x text k n) (lD c (x.last+1) (cK x.who) text k n):=by
 have j:cK x.who<x.who.length:=by
  have:=tP x.who;have t:cK x.who≠x.who.length:=λe=>s ((tN h.sl).2 e)
  omega
 have⟨u,v,w,A,C⟩:=vA r;have g:=OI h.sl j;have E:=h.lb;have F:=h.n0;have o:iH c (B+1) (qI c x text k n) (lD c (x.last+1) (cK x.who) text k n):=by
  refine⟨?_,A,C,v,w,u,by simp[lD],by simp[lD],λz l=> ?_⟩
  .show mC (x.who.set (cK x.who) (x.last+1)) (cK x.who)=some (x.last+1)
   rw[g,aI rfl]
  .have m:=List.eq_of_mem_replicate (show z∈List.replicate 6 (⟨0,0,0,false⟩:En)from l)
   subst m;have I:=pH h.sl;exact⟨Int.le_refl _,by simp only;omega,Int.le_refl _,F⟩
 refine⟨⟨h.may,h.sl.sub j,by show(List.set _ _ _).length=_;rw[ds];exact h.wl,by show x.last+1<=B+1;omega,h.n0,h.n1,?_,λy i=> ?_,?_,λk id G=> ?_,h.tm⟩,o⟩
 .show((x.told++ [_]).length:Int)=x.last+1
  rw[bF];have:=h.tl;simp only[cG,dx];omega
 .obtain i|i:=List.mem_append.1 (show y∈x.qs++ [_]from i)
  .have d:=(h.qy y i).mono (B':=B+1) (by omega)
   refine⟨?_,d.n1,d.n2,d.k0,d.k4,d.tx,d.sl,d.hl,d.hs⟩
   show mC (x.who.set (cK x.who) (x.last+1)) y.slot=some y.id
   rw[g,aC]
   .exact d.at'
   .intro e
    have p:=(Ae h.sl).2 j;rw[<-e,d.at']at p;cases p
  .rw[List.mem_singleton.1 i]
   exact o
 .show((x.qs++ [_]).map ej.id).Nodup
  rw[gF,List.nodup_append];refine⟨h.nd,by simp,λa H b q=> ?_⟩;obtain⟨y,i,rfl⟩:=List.mem_map.1 H;have J:=(h.qy y i).slot h.sl;simp only[gi,List.map_nil,cm]at q;rw[q]
  show y.id≠x.last+1
  omega
 .have f:mC (x.who.set (cK x.who) (x.last+1)) k=some id:=G
  rw[g]at f;split at f
  .refine⟨_,List.mem_append.2 (.inr (List.mem_singleton.2 rfl)),Option.some.inj f⟩
  .have⟨z,l,e⟩:=h.full k id f
   exact⟨z,List.mem_append.2 (.inl l),e⟩
def QW(h:cI c B x)(text:ByteArray)(k n:Int):cI c (B+1) (dq c x text k n).1:=by
 by_cases a:(jD (ie text k n) x.who x.last).1=3
 .rw[iJ a]
  have⟨b,d,_⟩:=nP a;have⟨e,f⟩:=F2 h b d;exact Pf e (List.mem_append.2 (.inr (List.mem_singleton.2 rfl))) rfl f
 .rw[iO a]
  exact h.mono (by omega)
end
variable{c:aV}{B:Int}{x:cB}
def Pg(l:List Bool): -1<=kQ l/\kQ l<max 1 l.length:=by
 unfold kQ;split
 .rename_i i h
  have:=(List.findIdx?_eq_some_iff_getElem.1 h).1;omega
 .omega
def J6(c:aV)(s:Int):(bR c s).length<=c.copies.toNat:=by
 unfold bR;split<;>simp
variable{y:ej}
def pf(h:cI c B x)(a:iH c B x y){s:Nat}(b:s<(aZ c).toNat):0<=bY y.slot s/\bY y.slot s<24:=by
 have⟨d,e,_⟩:=a.slot h.sl;have:=h.four;have:=cW c;unfold bY;omega
def UA{t:(Int->Option Int)×Nat}{id a:Int}(b:∀i,(t.1 i).isSome=true->0<=i/\i<24)(d:0<=id/\id<24):∀i,((pd t id a).1 i).isSome=true->0<=i/\i<24:=by
 intro i h;unfold pd sd at h;simp only at h;split at h
 .rename_i e;rw[e];exact d
 .exact b i h
def Ph(a:iH c B x y)(s:Nat){z:En}(d:0<=z.turn/\z.turn<=B+1+3/\0<=z.first/\z.first<=x.now):iH c (B+1) x (setH y s z):=by
 refine⟨a.at',a.n1,a.n2,a.k0,a.k4,a.tx,a.sl,by simp[setH,a.hl],λu b=> ?_⟩;obtain b|rfl:=jC b
 .have:=a.hs u b;omega
 .exact d
def iH.same{x':cB}(h:iH c B x y)(a:x'.who=x.who)(b:x'.now=x.now):iH c B x' y:=
 ⟨by rw[a];exact h.at',h.n1,h.n2,h.k0,h.k4,h.tx,h.sl,h.hl,by rw[b];exact h.hs⟩
def A0(a:iH c B x y){s:Nat}(b:s<6):0<=(y.sh.getD s ()).turn/\(y.sh.getD s ()).turn<=B+3/\0<=(y.sh.getD s ()).first/\(y.sh.getD s ()).first<=x.now:=
 a.hs _ (bh y.sh s (by rw[a.hl];exact b))
structure UB(c:aV)(B:Int)(x:cB)(y:ej)(x':cB)(y':ej):Prop where
 co:cI c B x'
 qy:iH c (B+1) x' y'
 id:y'.id=y.id
 qs:x'.qs=x.qs
 ss:y'.ss=y.ss
 slot:y'.slot=y.slot
def F3(h:cI c B x)(i:0<=B)(d:iH c B x y){s:Nat}(hs:s<(aZ c).toNat)(b:Int):UB c B x y (cL c x y s b).1 (cL c x y s b).2.1:=by
 have j:=cW c;have k:=A0 d (s:=s) (by omega);have f:=pf h d hs;have e:∀(z:En),0<=z.turn/\z.turn<=B+1+3/\0<=z.first/\z.first<=x.now->∀a,UB c B x y {x with T:=(pd (x.T,x.tn) (bY y.slot s) a).1,tn:=(pd (x.T,x.tn) (bY y.slot s) a).2} (setH y s z):=λz g a=>
  ⟨h.time (UA h.tm f) _,(Ph d s g).same rfl rfl,rfl,rfl,rfl,rfl⟩
 unfold cL;simp only;split
 .refine e _ ?_ _
  have h1:=Pg ((bR c s).map λw=>qo c.workers x.L w x.now);have h2:=J6 c s;have l:=(aV.bounds h.may).c2;have m:=h.n0;rw[cr]at h1;simp only;omega
 .split
  .refine e _ ?_ _
   simp only;omega
  .split
   .exact⟨h,Ph d s (by simp only;omega),rfl,rfl,rfl,rfl⟩
   .exact⟨h,d.mono (by omega),rfl,rfl,rfl,rfl⟩
def J7(a:Int):∀(l:List Int) {B:Int} {x:cB} {y:ej} (b:List fF),cI c B x->0<=B->iH c B x y->(∀s∈l,0<=s/\s.toNat<(aZ c).toNat)->
 cI c (B+l.length) (dL c a l x y b).1/\iH c (B+l.length) (dL c a l x y b).1 (dL c a l x y b).2.1/\(dL c a l x y b).2.1.id=y.id/\(dL c a l x y b).1.qs=x.qs
 | [],B,x,y,b,h,_,g,_=>by simpa[dL]using⟨h,g⟩
 |s::l,B,x,y,b,h,j,g,i=>by
  have f:=F3 h j g (i s (by simp)).2 a;have d:=J7 a l (b++(cL c x y s.toNat a).2.2) (f.co.mono (B':=B+1) (by omega)) (by omega) f.qy (λz k=>i z (du _ k));unfold dL;have e:B+1+(l.length:Int)=B+((s::l).length:Int):=by rw[cG];omega
  rw[e]at d;exact⟨d.1,d.2.1,d.2.2.1.trans f.id,d.2.2.2.trans f.qs⟩
def pR{n:Int}{a:List jv}{told:List aY}{s:Int}(h:s∈ki n a told):0<=s/\s.toNat<a.length:=by
 unfold ki at h;split at h
 .cases h
 .unfold kR at h
  obtain⟨k,b,rfl⟩:=List.mem_map.1 h;have:=List.mem_range.1 (List.mem_filter.1 b).1;omega
def nQ(n:Int)(a:List jv)(told:List aY):(ki n a told).length<=a.length:=by
 unfold ki;split
 .simp
 .exact wX _ _
def UC(h:cI c B x)(e:0<=B)(slot:Nat)(a:Int)(l:List fF):cI c (B+6) (lE c x slot a l).1:=by
 unfold lE;split
 .exact h.mono (by omega)
 split
 .exact h.mono (by omega)
 .rename_i y f
  have⟨d,_⟩:=jQ f;have b:=h.qy y d;have⟨g,i,j,k⟩:=J7 a (ki y.n y.ss y.mt) l h e b (λs m=>by have:=pR m;rw[b.sl]at this;exact this);have o:=nQ y.n y.ss y.mt;have p:=cW c;rw[b.sl]at o;exact(Nh g (y0:=y) (by rw[k];exact d) j.symm i).mono (by omega)
def ni(h:cI c B x)(b:0<=B)(a:Int):∀k:Nat,cI c (B+6*k) (dM c x a k).1
 |0=>by simpa[dM]using h
 |k+1=>by
  have d:=UC (ni h b a k) (by omega) k a (dM c x a k).2;unfold dM;have e:B+6*(k:Int)+6=B+6*((k+1:Nat):Int):=by omega
  rw[<-e];exact d
def XW(h:cI c B x)(b:0<=B)(a:Int):cI c (B+24) (iD c x a).1:=by
 have:=(aV.bounds h.may).s2;exact(ni h b a _).mono (by omega)
variable{w':ae}
structure SC where
 l:fF
 iv:ah
def SC.cells(m:SC):List ah:=[an ar m.l.dst,m.l.m.val m.iv]
def mq(B:Nat)(w:ae)(iv:ah):cd->Prop
 | .ask a=>a.text.size<=maxLen/\a.word.size<=maxLen
 | .dj r=>(∃g,Seg w 83 2 g iv (dT r.items) r.items.length/\∀x,g=some x->B<=x)/\∀x∈r.items,x.2.size<=maxLen
 |_=>True
variable{B:Nat}{m:cd}
def mq.rd{iv:ah}(h:mq B w iv m):m.rd w iv:=by
 cases m with
 |ask a=>exact h
 |dj r=>obtain⟨⟨g,d,_⟩,e⟩:=h;exact⟨aT.gP d (λ_=>rfl) (by decide),e⟩
 |eu a b=>trivial
 |grant a b c=>trivial
 |stop a b=>trivial
def mq.bH{iv:ah}{S:List Nat}(h:mq B w iv m)(f:aQ S w w')(i:∀x∈S,x<B):mq B w' iv m:=by
 cases m with
 |ask a=>exact h
 |dj r=>
  obtain⟨⟨g,j,d⟩,k⟩:=h;exact⟨⟨g,j.bH f (λx l e=>by have:=d x l;have:=i x e;omega),d⟩,k⟩
 |eu a b=>trivial
 |grant a b c=>trivial
 |stop a b=>trivial
def mq.mono{B':Nat}{iv:ah}(h:mq B w iv m)(d:B'<=B):mq B' w iv m:=by
 cases m with
 |ask a=>exact h
 |dj r=>
  obtain⟨⟨g,e,f⟩,i⟩:=h;exact⟨⟨g,e,λx j=>bD d (f x j)⟩,i⟩
 |eu a b=>trivial
 |grant a b c=>trivial
 |stop a b=>trivial
def eH(B:Nat)(w:ae)(v:ah)(ls:List fF):Prop:=
 ∃ms:List SC,ms.map SC.l=ls/\Own B 187 2 w v (ms.flatMap SC.cells) ms.length/\∀m∈ms,mq B w m.iv m.l.m/\∃a n c,m.iv=av a n c
def eH.nil(B:Nat)(w:ae):eH B w () []:=⟨[],rfl,Own.nil _ _ _ _,by simp⟩
def eH.bH{v:ah}{a:List fF}(h:eH B w v a)(b:aQ ([]:List Nat) w w'):eH B w' v a:=by
 obtain⟨e,f,g,c⟩:=h;exact⟨e,f,g.bH b,λm d=>⟨(c m d).1.bH b (by simp),(c m d).2⟩⟩
def eH.mono{B':Nat}{v:ah}{a:List fF}(h:eH B w v a)(b:B'<=B):eH B' w v a:=by
 obtain⟨e,f,g,c⟩:=h;exact⟨e,f,g.mono b,λm d=>⟨(c m d).1.mono b,(c m d).2⟩⟩
def eH.one{b:Nat}{l:fF}{iv:ah}(e:w.heap[b]? =some (aB #[l.dst,l.m.val iv] 187 (0,0)))(f:B<=b)(g:mq B w iv l.m)(h:∃a n c,iv=av a n c):eH B w (av (some ⟨b,0,none⟩) 1 1) [l]:=by
 refine⟨[⟨l,iv⟩],rfl,?_,λm d=> ?_⟩
 .exact⟨rfl,.inr ⟨b,1,_,rfl,f,e,aP _,by decide,rfl,rfl⟩⟩
 .rw[List.mem_singleton.1 d]
  exact⟨g,h⟩
def eH.len{v:ah}{b:List fF}(h:eH B w v b):∃a k,v=av a b.length k/\b.length<=k/\b.length<=maxLen:=by
 obtain⟨d,e,f,_⟩:=h;have c:d.length=b.length:=by rw[<-e,cr]
 rw[<-c];exact f.len
def xp:(prog.info? 187).map (λi=>(i.zero,i.size,i.bytes))=some (some (aG #[an ar 0,.nilIface]),2,24):=by kernel_rfl
def mq.below{iv:ah}(h:mq B w iv m)(a:ai w w w'):mq B w' iv m:=h.bH (ch a) (by simp)
def eH.below{v:ah}{a:List fF}(h:eH B w v a)(b:ai w w w'):eH B w' v a:=h.bH (aQ.of_below b)
def mq.plain{iv:ah}(h:mq B w iv m)(d:∀r,m≠.dj r)(B':Nat)(w':ae):mq B' w' iv m:=by
 cases m with
 |ask a=>exact h
 |dj r=>exact(d r rfl).elim
 |eu a b=>trivial
 |grant a b c=>trivial
 |stop a b=>trivial
def eH.push{v:ah}{b:List fF}(h:eH B w v b)(o:∀l∈b,∀r,l.m≠.dj r)(l:fF)(p:∀r,l.m≠.dj r)(q:mq B w () l.m)(y:b.length<=1000000)(s:B<=w):
 ∃a k w',(∀t,(Builtin.append_ #[130,130] t #[v,av (some ⟨w,0,none⟩) 1 1]).run prog (w.alloc (aB #[l.dst,l.m.val ()] 187 (0,0)))=.ok (av a (b.length+1) k) w')/\eH B w' (av a (b.length+1) k) (b++ [l])/\ai B w w':=by
 obtain⟨g,d,u,i⟩:=h;have c:g.length=b.length:=by rw[<-d,cr]
 have⟨a,k,w',j,n,x⟩:=Own.push u 130 underlying130 xp rfl (by decide) [an ar l.dst,l.m.val ()] rfl (by cases z:l.m<;>simp[Value.oneCell',cd.val]) (by omega) (by decide) s;rw[c]at j n;refine⟨a,k,w',j,⟨g++ [⟨l,av none 0 0⟩],by simp[d],?_,λm e=> ?_⟩,x⟩
 .rw[fQ,bF,c]
  exact n
 .obtain h|h:=List.mem_append.1 e
  .have f:m.l∈b:=by rw[<-d];exact List.mem_map.2 ⟨m,h,rfl⟩
   exact⟨(i m h).1.plain (o _ f) B w',(i m h).2⟩
  .rw[List.mem_singleton.1 h]
   exact⟨q.plain p B w',_,_,_,rfl⟩
def aaS(ns:List gO)(w:ae)(e:ak)(w':ae):Prop:=∃v',e=ax (aM #[v',an ar 0])/\dI w w' v' (uj ns)/\ai w w w'
def XX{u:ae}{b e sz n:Nat}{cs:List ah}(h:u.heap[b]? =some (aB cs.toArray e (0,0)))(a:cs.length=n*sz)(c:n<=maxLen):Seg u e sz (some b) (av (some ⟨b,0,none⟩) n n) cs n:=
 ⟨a,.inr ⟨b,0,n,_,rfl,rfl,h,aP _,c,by simp[a],λj _=>by rw[eJ,List.getElem?_toArray]⟩⟩
def UD{B:Nat}{w y:ae}{v:ah}{bs:List Int}(h:dI B w v bs)(b:ai w w y)(c:B<=w)(a:bs.length<=100000)(n:Int)(sz:Nat)(d:1<=sz)(f:sz<=8)(g:0<=n)(i:n<9223372036854775808):
 aj prog 122 #[v,(n:Int),(sz:Int)] y λe w'=>(∃v',e=ax v'/\dI B w' v' (bs++dA n sz))/\ai y y w':=
 (CE v bs n sz y ((show dI B y v bs from Own.below h b).reads) a d f g i).mono λe w' ⟨v',j,k,a⟩=>⟨⟨v',j,Own.mono k (bD c b.size)⟩,a⟩
def aeT{w:ae}{p:Nat}{g:Option Nat}{v:ah}{ms:List dP}(h:jm w p g v ms)(hn:10+3*ms.length+6*qM (ms.map dP.n)<=100000)(he:J3 100000 (ms.map dP.n)):
 aj prog 160 #[p] w (aaS (ms.map dP.n) w):=by
 have O:=au (show∀y v',dI w y v' (uj (ms.map dP.n))->ai w w y->aaS (ms.map dP.n) w (ax (aM #[v',an ar 0])) y fromλy v' s h2=>⟨v',rfl,s,h2⟩);generalize aaS (ms.map dP.n) w=Q at*;have⟨a,A⟩:=aD (ms.map dP.n);rw[<-A]at hn he O;have U:a.length=ms.length:=by rw[A,cr]
 have⟨F,hF⟩:= @aD (Nat->List Int) (λk=> [73,78,75,49]++dA a.length 2++(a.take k).flatMap El);have⟨MO,W3⟩:=aK (show F 0=[73,78,75,49]++dA ms.length 2 by rw[hF,U];simp) (show F ms.length=o_ a by rw[hF,<-U];simp only;rw[fR];rfl);have V:∀k,k<=ms.length->(F k).length=6+(3*k+6*qM (a.take k)):=λk W=>by
  rw[hF];simp only[bF,AV,dw,cG,dx,fY];rw[Nat.min_eq_left (by omega)]
 have I1:=au (show∀k,k<=ms.length->(F k).length<=100000 fromλk W=>by
  have:=J5 a k;have:=V k W;omega)
 have HFN:=au (show∀k,k<ms.length->F (k+1)=F k++Ek (a.getD k ())++(a.getD k ()).bO.flatMap AT/\(F k).length+3+6*(a.getD k ()).bO.length<=100000 fromλk W=>by
  have X:k<a.length:=by omega
  have e:a.take (k+1)=a.take k++ [a.getD k ()]:=by rw[fG X];simp[aU,X]
  refine⟨?_,?_⟩
  .rw[hF]
   simp only;rw[e,fQ,<-h_,h_ _ (Ek _) _];simp[El]
  .have:=XS a k X
   have:=V k (lH W);omega)
 have⟨XF,HNS⟩:=aK (show ms.length<=100000 by omega) A;have HED:=au (show∀k,k<ms.length->∀j,j<(a.getD k ()).bO.length->0<=((a.getD k ()).bO.getD j ()).1/\((a.getD k ()).bO.getD j ()).1<9223372036854775808/\0<=((a.getD k ()).bO.getD j ()).2/\((a.getD k ()).bO.getD j ()).2<9223372036854775808 fromλk W j hj=>by
  have:=he _ (bh a k (by omega)) _ (bh _ j hj);omega)
 have⟨HG,HN⟩:=aK (λ(y:ae) (r:ai w w y)=>h.bH (ch r) (by simp)) (λ(y:ae) (r:ai w w y)=>Uq (h.bH (ch r) (by simp)));have⟨u,hu⟩:=aD (w.alloc (aB #[.int .u8 73,.int .u8 78,.int .u8 75,.int .u8 49] 5 (4,5)));have⟨Y,bg,bl⟩:=dt hu;have hbs:dc u .u8 (av (some ⟨w,0,none⟩) 4 4) [73,78,75,49]:=⟨_,4,rfl,by simp[maxLen],⟨by decide,λh=>by cases h⟩,λi hi=>⟨_,0,rfl,az Y,by
  have hi':i<4:=hi;simp only[World.cell?,Y,eJ]
  match i,hi' with
  |0,_=>rfl
  |1,_=>rfl
  |2,_=>rfl
  |3,_=>rfl⟩⟩
 have⟨Z,HP0⟩:=aK bg.aJ (CE _ _ ms.length 2 u hbs (by simp) (by decide) (by decide) (by omega) (by omega));rw[<-MO.o]at HP0;have⟨HNU,HU⟩:=aK (HN.o u bg.aJ) hu;have hcv:=λ(w:ae) (C:Array ah) (n c:Nat)=>Lib.run_convert_bytes_const (P:=prog) w 188 5 C n c underlying188 underlying5
 clear h hn he A U hF V Y bg hu hbs;go_in;go_wp2_with fail
 rw[<-HU.o];refine aH HNU.o ?_;go_wp2_with fail
 refine HP0.m ?_;rintro e y ⟨vb,rfl,hvb,r⟩;have⟨HVB,HWY⟩:=aK (Own.mono hvb Z.o.size) (Z.o.trans (r.mono Z.o.size));have HNY:=au (HN.o y HWY.o);clear hvb r hcv;go_wp2_with fail
 refine aH HNY.o ?_;go_wp2_with fail
 go_loopw [4,19] (λv i wr=>∃k:Nat,i=an ar k/\k<=ms.length/\dI w wr v (F k)/\ai w w wr) (λ_ i _=>ms.length-(intOf i).toNat)
 case atStart=>exact⟨0,rfl,bz _,HVB.o,HWY.o⟩
 case round=>
  obtain⟨k,rfl,W,f,d⟩:=hrel;have hsm:=XF.o;by_cases hlt:k<ms.length
  .have hgy:=HG.o _ d
   have B:(mj ms k).n=(ms.map dP.n).getD k ():=by
    unfold mj;rw[aI ⟨by omega,by omega⟩,gE];simp[aU,hlt]
   rw[<-HNS.o]at B;have⟨s,h2⟩:=HFN.o k hlt;have Zr:=HED.o k hlt;have hel:=I1.o k W;have⟨Mg,SD⟩:=aK (Us hgy k) (λy r=>O_ (HG.o y r) k (by rw[B];omega));rw[B]at Mg SD;have⟨b,hes⟩:=aD ((a.getD k ()).bO);have⟨l,x⟩:=aD ((a.getD k ()).fin);have hhd:Ek (a.getD k ())=dA (if l then 1 else 0) 1++dA b.length 2:=by rw[x,hes];rfl
   rw[<-hes]at s h2 Zr SD;rw[<-x]at Mg;rw[hhd,<-h_]at s;have⟨HV,HB,H1,HE,H⟩:=iI f d s Zr h2;have z2:(k:Int)<(ms.length:Int):=by omega
   clear f d hgy B s Zr hes x hhd h2;go_wp2_with fail
   refine aN Mg.o ?_;intro y r;have HY:=au (HB.o.trans (r.mono HB.o.size));have⟨f1,I⟩:= @aD Int (if l then 1 else 0);have f0:0<=f1/\f1<9223372036854775808:=by rw[I];cases l<;>decide
   have s:=H1.o;rw[<-I]at s;have⟨HP1,H1'⟩:=aK (UD HV.o r HB.o.size hel f1 1 (by decide) (by decide) f0.1 f0.2) s;have hff:(l=false/\f1=0)∨(l=true/\f1=1):=by rw[I];cases l<;>simp
   have ai6:=HY.o.size;have aoO:b.length<=100000:=by have:=H.o;omega
   have⟨G,hG⟩:= @aD (Nat->List Int) (λj=>F k++dA f1 1++dA b.length 2++(b.take j).flatMap AT);have HG0:=au (show F k++dA f1 1++dA b.length 2=G 0 by rw[hG];simp);have HGS:=au (show∀j,j<b.length->G j++dA (b.getD j ()).1 4++dA (b.getD j ()).2 2=G (j+1)fromλj hj=>by
    rw[hG];simp only;rw[fG hj,fQ,<-h_,h_ _ (dA _ 4)];congr 1;simp[aU,hj,AT])
   have HGL:=au (show∀j,j<b.length->(G j).length+6<=100000 fromλj hj=>by
    rw[hG];simp only[bF,AU,dw,fY];have:=H.o;omega)
   have ai8:=au (show G b.length=F (k+1)by
    rw[s,hG];simp only;rw[fR])
   clear r s I f0;obtain⟨rfl,rfl⟩|⟨rfl,rfl⟩:=hff
   all_goals
    go_wp2_with fail
    refine HP1.m ?_;rintro e y2 ⟨⟨v2,rfl,hv2⟩,hy2⟩;have⟨HV2,J⟩:=aK hv2 (HY.o.trans (hy2.mono ai6));clear hv2 hy2;go_wp2_with fail
    refine(SD.o y2 J.o).mono ?_;rintro e y3 ⟨ea,ec,rfl,ho,hy3⟩;have⟨HP2,HO,SE⟩:=aX (UD HV2.o hy3 J.o.size (by rw[bF,fY];have:=H.o;omega) b.length 2 (by decide) (by decide) (by omega) (by have:=H.o;omega)) ho (J.o.trans (hy3.mono J.o.size));have ai9:=SE.o.size;clear ho hy3;go_wp2_with fail
    refine HP2.m ?_;rintro e y4 ⟨⟨v4,rfl,hv4⟩,hy4⟩;have⟨HO4,HV4,K⟩:=aX (show Own y2 303 2 y4 (av ea b.length ec) (rO b) b.length from Own.below HO.o hy4) hv4 (SE.o.trans (hy4.mono ai9));clear hv4 hy4;rw[HG0.o]at HV4;go_wp2_with fail
    go_loopw [4,37] (λv i wr=>∃j:Nat,i=an ar j/\j<=b.length/\dI w wr v (G j)/\ai y4 y4 wr) (λ_ i _=>b.length-(intOf i).toNat)
    case atStart=>exact⟨0,rfl,bz _,HV4.o,aO _ _⟩
    case round=>
     obtain⟨j,rfl,hj,f,d⟩:=hrel;by_cases q:j<b.length
     .have⟨eb,eo,ecc,e1,_,ebl,hcl⟩:=(Own.below HO4.o d).cell (by decide) j q
      simp only[bG,bK]at e1;obtain⟨rfl,rfl⟩:=e1;have x0:=(hcl 0 _ (by decide) (jc b j q).1).1;have x1:=(hcl 1 _ (by decide) (jc b j q).2).1;simp only[bM]at x0;have⟨b0,Y,b2,b3⟩:=HE.o j q;have L:=HGS.o j q;have hgl:=HGL.o j q;have⟨E,hE⟩:=aD (b.getD j ());rw[<-hE]at x0 x1 b0 Y b2 b3 L;obtain⟨ru,tgt⟩:=E;simp only at x0 x1 b0 Y b2 b3 L;have⟨t,ht⟩:=aD (wr.alloc (aB #[.int .i32 ru,tgt] 303 (0,0)));have⟨n1,n2,n3⟩:=dt ht;have t0:=aF n1 0 rfl;have gl3:=az n1;have M:=K.o.trans (d.mono K.o.size);have⟨HPA,HT,Mh,QJ,Mi,aja⟩:=eC (UD f n2.aJ M.size (by omega) ru 4 (by decide) (by decide) b0 Y) ht n1 (d.trans (n2.aJ.mono d.size)) (M.trans (n2.aJ.mono M.size)) L;have z4:(0:Int)<=(j:Int):=by omega
      have z5:(j:Int)<(b.length:Int):=by omega
      have q1:IntKind.i64.wrap ru=ru:=IntWalk.i64_in _ (by omega);clear f d hcl hE ht n1 n2 n3 L M;go_upto_region 16 with fail
      rw[<-HT.o];clear x0 x1;go_wp2_with fail
      refine HPA.m ?_;rintro e t2 ⟨⟨v5,rfl,hv5⟩,N⟩;have hn1:=(ch N).at Mh.o (by simp);have t1:=aF hn1 1 rfl;have gl4:=az hn1;have⟨T,HPB⟩:=aK (QJ.o.trans (N.mono QJ.o.size)) (UD hv5 (aO _ _) (Mi.o.trans (N.mono Mi.o.size)).size (by rw[bF,fY];omega) tgt 2 (by decide) (by decide) b2 b3);clear hv5 N hn1 t0 gl3;go_wp2_with fail
      refine HPB.m ?_;rintro e t3 ⟨⟨v6,rfl,hv6⟩,ht3⟩;rw[aja.o]at hv6;have⟨HV6,HB6⟩:=aK hv6 (T.o.trans (ht3.mono T.o.size));clear hv6 ht3;go_wp2;go_roundw
      case rel=>exact⟨j+1,by simp,by omega,HV6.o,HB6.o⟩
      case measure=>simp[intOf];omega
     .obtain rfl:j=b.length:=by omega
      rw[ai8.o]at f;have⟨HV6,HB6⟩:=aK f (K.o.trans (d.mono K.o.size));clear f d;go_wp2;go_roundw
      case rel=>exact⟨k+1,by simp,by omega,HV6.o,HB6.o⟩
      case measure=>simp[intOf];omega
  .obtain rfl:k=ms.length:=by omega
   have hfl:=I1.o ms.length (aP _);rw[W3.o]at f hfl;have s0:0<=l_ (o_ a):=bits_lo_u32 .xor _ _;have s1:l_ (o_ a)<=4294967295:=bits_hi_u32 .xor _ _;have⟨HS,HP⟩:=aK (WZ _ (o_ a) wr f.reads) (UD f (aO _ _) d.size hfl (l_ (o_ a)) 4 (by decide) (by decide) s0 (by omega));have⟨va,vc,hva,_⟩:=Own.len f;have hpk:o_ a++dA (l_ (o_ a)) 4=uj a:=rfl;rw[hpk]at HP;have HB:=au d;generalize l_ (o_ a)=S at*;clear f d hpk hfl;subst hva;go_wp2_with fail
   refine aH HS.o ?_;go_wp2_with fail
   refine HP.m ?_;rintro e z ⟨⟨v',rfl,hv'⟩,hz⟩;have HQ:=au (O.o z v' hv' (HB.o.trans (hz.mono HB.o.size)));clear hv' hz;go_wp2;exact HQ.o
structure mz(w:ae)(p:Nat)(bs:List Int)(s:Nat×Bool):Prop where
 x:∃v,w.heap[p]? =some (aB #[v,an ar s.1,aw s.2] 269 (0,0))/\dc w .u8 v bs/\∀a n c,v=av (some a) n c->a.block<p
 ok:cQ bs
 len:bs.length<=1000000
 le:s.1<=bs.length
def mz.lt{bs:List Int}{s:Nat×Bool}(h:mz w p bs s):p<w:=by
 obtain⟨⟨v,a,_⟩,_⟩:=h;exact az a
def mz.below{w':ae}{bs:List Int}{s:Nat×Bool}(h:mz w p bs s)(a:ai w w w'):mz w' p bs s:=by
 obtain⟨⟨v,b,c,d⟩,e,f,g⟩:=h;exact⟨⟨v,(ch a).at b (by simp),c.below a,d⟩,e,f,g⟩
def mz.set{y:ae}{bs:List Int}{v:ah}{s t:Nat×Bool}(h:w.heap[p]? =some (aB #[v,an ar s.1,aw s.2] 269 (0,0)))(g:dc w .u8 v bs)(b:∀a n c,v=av (some a) n c->a.block<p)(j:cQ bs)(k:bs.length<=1000000)(d:aQ ([]:List Nat) w y)(i:Nat)(u:ah)
 (l:(#[v,an ar s.1,aw s.2]:Array ah).setIfInBounds i u= #[v,an ar t.1,aw t.2]) (m:t.1<=bs.length):mz (y.setCell ⟨p,i,none⟩ u) p bs t/\aQ [p] w (y.setCell ⟨p,i,none⟩ u):=by
 have f:aQ [p] w (y.setCell ⟨p,i,none⟩ u):=(d.mono (by simp)).trans ((aQ.refl [p] y).setCell _ (by simp) u);refine⟨⟨⟨v,?_,g.bH f (λa n c e=>by have:=b a n c e;simp;omega),b⟩,j,k,m⟩,f⟩;rw[<-l];exact aE (d.at h (by simp)) u
def A4{bs:List Int}{s:Nat×Bool}(h:mz w p bs s)(sz:Nat)(x:1<=sz)(k:sz<=4):aj prog 134 #[p,(sz:Int)] w λe w'=>e=ax (an ar (eW bs sz s).1)/\mz w' p bs (eW bs sz s).2/\aQ [p] w w':=by
 obtain⟨⟨v,c,l,m⟩,g,z,d⟩:=h;obtain⟨a,f⟩:=s;simp only at c d;have j:=au (λn=>Qn v bs a sz (w.drewN n) (l.bH (bo w n) (by simp)) g x k (by omega));have⟨B,C,E⟩:=oN c;have F:=bB c 1;have G:=bB c 2;have b:=au (λ(y:ae) (A:aQ ([]:List Nat) w y) (t:Nat×Bool) (i:Nat) (u:ah) ht h6=>mz.set (s:=(a,f)) (t:=t) c l m g z A i u ht h6);unfold eW;obtain⟨H,I,rfl,_⟩:=l;by_cases q:a+sz<=bs.length
 .simp only[aI q]at j⊢
  have r:=au (λn=>b.o (w.drewN n) (bo w n) (a+sz,f) 1 ((a:Int)+(sz:Int):Int) rfl q);generalize oD bs a sz=N at*;clear c m g;go_in;go_wp2_with fail
  go_quiet ((go_at_call 128;exact de (j.o _)));go_wp2;go_ret;exact⟨rfl,r.o _⟩
 .simp only[aC q]at j⊢
  have r:=au (λn=>b.o (w.drewN n) (bo w n) (a,true) 2 (aw true) rfl d);clear c m g;go_in;go_wp2_with fail
  go_quiet ((go_at_call 128;exact de (j.o _)));go_wp2;go_ret;exact⟨rfl,r.o _⟩
structure XY(w:ae)(p q:Nat)(bs:List Int)(fin:Bool)(n j:Nat)(r:List eY×(Nat×Bool))(wr:ae)where
 ev:ah
 eg:Option Nat
 es:List eY
 st:Nat×Bool
 b:wr.heap[q]? =some (aB #[aw fin,ev] 273 (0,0))
 s:Seg wr 303 2 eg ev (rO es) es.length
 g:∀x,eg=some x->q<x
 x:wr.heap[w.heap.size]? =some (aB #[aw false,()] 273 (0,0))
 rd:mz wr p bs st
 c:aQ [p] w wr
 l:es.length=j
 e:nM bs (n-j) st es=r
def Ni(r:gO×(Nat×Bool))(w:ae)(p:Nat)(bs:List Int)(e:ak)(w':ae):Prop:=
 ∃ev eg,e=ax (aG #[aw r.1.fin,ev])/\Seg w' 303 2 eg ev (rO r.1.bO) r.1.bO.length/\(∀x,eg=some x->w.heap.size<=x)/\mz w' p bs r.2/\aQ [p] w w'/\r.1.bO.length<=65535
variable{n:Nat}
def Eo{g:Nat}{a:Bool}{b:Option Addr}{c:Nat}(h:w.heap[g]? =some (aB #[aw a,av b n c] 273 (0,0))):(loadVar 273 ⟨g,0,none⟩).run prog w=.ok (aG #[aw a,av b n c]) w:=
 run_loadVar_row w g 273 273 _ (0,0) _ h underlying273 rfl (by kernel_rfl)
theorem aeV{wr z t:ae}{q:Nat}{bs:List Int}{h:Bool}{j:Nat}{r:List eY×(Nat×Bool)}{ev:ah}{eg g':Option Nat}{es:List eY}{f:Nat×Bool}{x:eY}{m:Option Addr}{o:Nat}(V:w.heap.size<q)(W:p<w)
 (u:wr.heap[w.heap.size]? =some (aB #[aw false,()] 273 (0,0))) (H:wr.heap[q]? =some (aB #[aw h,ev] 273 (0,0))) (A:∀x,eg=some x->q<x) (I:aQ [p] w wr) (J:es.length=j) (K:nM bs (n-(j+1)) f (es++ [x])=r)
 (k:aQ [p] wr z) (L:mz z p bs f) (M:Seg t 303 2 g' (av m (es.length+1) o) (rO (es++ [x])) (es++ [x]).length) (g:aQ eg.toList z t) (B:g'=eg∨∃b,g'=some b/\z.heap.size<=b)
 (C:t.heap[q]? =some (aB #[aw h,ev] 273 (0,0))):Nonempty (XY w p q bs h n (j+1) r (t.setCell ⟨q,1,none⟩ (av m (es.length+1) o))):=by
 have N:=az H;have s:∀x,g'=some x->q<x:=λx u=>by
  obtain e|⟨y,e,l⟩:=B
  .exact A x (by rw[<-e,u])
  .rw[u]at e
   simp only[bA]at e;subst e;have:=k.size;omega
 have d:aQ [q] t (t.setCell ⟨q,1,none⟩ (av m (es.length+1) o)):=(aQ.refl _ _).setCell _ (by simp) _;have E:mz (t.setCell ⟨q,1,none⟩ (av m (es.length+1) o)) p bs f:=by
  obtain⟨⟨v,O,P,F⟩,Q,T,U⟩:=L;have G:∀y,y<=p->y∉eg.toList:=λy l e=>by have:=A y (by simpa using e);omega
  refine⟨⟨v,d.at (g.at O (G p (aP _))) (by simp;omega),(P.bH g (λa n c e=>G _ (lH (F a n c e)))).bH d (λa n c e=>by have:=F a n c e;simp;omega),F⟩,Q,T,U⟩
 refine⟨⟨_,g',es++ [x],f,by simpa using aE (i:=1) C (av m (es.length+1) o),M.bH d (λy l=>by have:=s y l;simp;omega),s,d.at (g.at (k.at u (by simp;omega)) (λe=>by have:=A w (by simpa using e);omega)) (by simp;omega),E,?_,by rw[bF,J];rfl,K⟩⟩;refine((I.trans k).new g (λy l=>by have:=A y (by simpa using l);omega)).new d (λy l=>by simp at l;omega)
def QX{bs:List Int}{s:Nat×Bool}{es:List eY}(h:s.2=false):
 nM bs (n+1) s es=nM bs n (eW bs 2 ((eW bs 4 s).2.1,(eW bs 4 s).2.2||decide (1114111<(eW bs 4 s).1))).2 (es++ [(IntKind.i32.wrap (eW bs 4 s).1,(eW bs 2 ((eW bs 4 s).2.1,(eW bs 4 s).2.2||decide (1114111<(eW bs 4 s).1))).1)]):=by
 conv=>lhs;unfold nM
 rw[h];rfl
def J8{bs:List Int}{s:Nat×Bool}{es:List eY}(h:s.2=true):nM bs n s es=(es,s):=by
 cases n
 .rfl
 .unfold nM
  rw[h];rfl
def XZ{xs:List Int}(h:cQ xs)(c:xs.length<=2):0<=qG 0 xs/\qG 0 xs<65536:=by
 match xs,c with
 | [],_=>simp[qG]
 | [a],_=>have:=h a (by simp);simp[qG];omega
 | [a,b],_=>have:=h a (by simp);have:=h b (by simp);simp[qG];omega
def J9{bs:List Int}(h:cQ bs)(s:Nat×Bool):0<=(eW bs 2 s).1/\(eW bs 2 s).1<65536:=by
 unfold eW;split
 .exact XZ (λx a=>h x (nu (List.mem_of_mem_take a))) (by rw[dw];omega)
 .exact⟨Int.le_refl 0,by show(0:Int)<_;decide⟩
def mz.bad{y:ae}{bs:List Int}{a:Nat}{b:Bool}(h:mz w p bs (a,b))(d:aQ ([]:List Nat) w y)(c:Bool):mz (y.setCell ⟨p,2,none⟩ (aw c)) p bs (a,c)/\aQ [p] w (y.setCell ⟨p,2,none⟩ (aw c)):=by
 obtain⟨⟨v,e,f,g⟩,i,j,k⟩:=h;exact mz.set (s:=(a,b)) (t:=(a,c)) e f g i j d 2 (aw c) (by simp) k
def aeW{wr:ae}{q:Nat}{bs:List Int}{R:gO×(Nat×Bool)}{ev:ah}{eg:Option Nat}(y:p<w)(z:w.heap.size<q)(d:wr.heap[w.heap.size]? =some (aB #[aw false,()] 273 (0,0)))
 (l:Seg wr 303 2 eg ev (rO R.1.bO) R.1.bO.length) (j:∀x,eg=some x->q<x) (m:mz wr p bs R.2) (o:aQ [p] w wr) (r:R.1.bO.length<=65535):
 ((wr.setCell ⟨w,0,none⟩ (aw R.1.fin)).setCell ⟨w,1,none⟩ ev).heap[w.heap.size]? =some (aB #[aw R.1.fin,ev] 273 (0,0))/\
  Ni R w p bs (ax (aG #[aw R.1.fin,ev])) ((wr.setCell ⟨w,0,none⟩ (aw R.1.fin)).setCell ⟨w,1,none⟩ ev):=by
 have f:=aE (i:=0) d (aw R.1.fin);have g:=aE (i:=1) f ev;have b:aQ [w.heap.size] wr ((wr.setCell ⟨w,0,none⟩ (aw R.1.fin)).setCell ⟨w,1,none⟩ ev):=((aQ.refl _ _).setCell _ (by simp) _).setCell _ (by simp) _;have h:mz ((wr.setCell ⟨w,0,none⟩ (aw R.1.fin)).setCell ⟨w,1,none⟩ ev) p bs R.2:=by
  obtain⟨⟨v,f,g,k⟩,s,t,u⟩:=m;exact⟨⟨v,b.at f (by simp;omega),g.bH b (λa n c e=>by have:=k a n c e;simp;omega),k⟩,s,t,u⟩
 refine⟨by simpa using g,ev,eg,rfl,l.bH b (λx d=>by have:=j x d;simp;omega),λx d=>by have:=j x d;omega,h,o.new b (by simp),r⟩
def aaU{bs:List Int}{s:Nat×Bool}(h:mz w p bs s):aj prog 135 #[p] w (Ni (AW bs s) w p bs):=by
 have hpl:=h.lt;have N:=h.ok;have⟨u,hu⟩:=aD (w.alloc (aB #[aw false,()] 273 (0,0)));have⟨g1,gg,gl⟩:=dt hu;have C:=A4 (h.below gg.aJ) 1 (by decide) (by decide);have⟨K,O⟩:=aD (eW bs 1 s);have⟨r2,g⟩:=aD (eW bs 2 (K.2.1,K.2.2||decide (1<K.1)));have⟨E,hE⟩:=aD (nM bs r2.1.toNat r2.2 []);have hP:AW bs s=(⟨K.1==1,E.1⟩,E.2):=by rw[hE,g,O];rfl
 have F:=J9 N (K.2.1,K.2.2||decide (1<K.1));rw[<-g]at F;rw[<-O]at C;obtain⟨c,k⟩:∃n:Nat,r2.1=n:=⟨r2.1.toNat,by omega⟩
 have hE2:nM bs c r2.2 []=E:=by rw[hE,k];simp
 rw[hP];obtain⟨n1,a1,b1⟩:=K;simp only at C g F⊢;have⟨G,P⟩:=aD (n1==1);have ke:=au (λ(q:Nat) (wr:ae) (ev:ah) (eg:Option Nat) (hq:w.heap.size<q) A H hg d a hl=>aeW (bs:=bs) (R:=(⟨G,E.1⟩,E.2)) (wr:=wr) (q:=q) (ev:=ev) (eg:=eg) hpl hq A H hg d a hl);rw[<-P];have Zk:=au P;generalize Ni (⟨G,E.1⟩,E.2) w p bs=Q at*;have⟨HE2,HR2,Mh,HU,Zs,l⟩:=eC hE2 g C hu g1 gg;have⟨HCN,qS,Cv⟩:=aX k F N;clear h hu g1 gg O hE hP C hE2 g F k P N;go_in;go_upto_region 1 with fail
 rw[<-HU.o];go_wp2_with fail
 refine aN Mh.o ?_;rintro y ⟨d,a⟩;have hx0:=a.at Zs.o (by simp;omega);have⟨y1,T⟩:=aD (y.alloc (aB #[aw (n1==1),()] 273 (0,0)));have⟨q1,qg,ql⟩:=dt T;have Wr:=(l.o.mono (by simp)).trans a;have hrb:=d.below qg.aJ;have hq:w.heap.size<y.heap.size:=by have:=a.size;omega
 have⟨HX,HCY,F4,HY1,Wq⟩:=iI (qg.at hx0 (by simp)) (Wr.trans (qg.mono (by simp))) hrb T q1;obtain⟨⟨v,U,_⟩,_⟩:=hrb;have c2:=aF U 2 rfl;have f2:=bB U 2;clear d a hx0 T q1 qg Wr U;go_upto_region 3 with fail
 rw[<-HY1.o];go_cut [] (λwr=>mz wr p bs (a1,b1||decide (1<n1))/\aQ [p] y1 wr)
 case first=>
  cases b1
  .have B:=au (F4.o.bad (aQ.refl _ _) (decide (1<n1)))
   go_wp2;go_meet;exact B.o
  .have B:=au (F4.o.bad (aQ.refl _ _) true)
   go_wp2;go_meet;exact B.o
 case rest=>
  obtain⟨d,a⟩:=hcut;have V:=A4 d 2 (by decide) (by decide);rw[<-HR2.o]at V;have⟨H2,HC3,HX3,HB3⟩:=c_ V (HCY.o.trans a) (a.at HX.o (by simp;omega)) (a.at Wq.o (by simp;omega));have⟨c0,c1⟩:=qS.o;have⟨q,hqq⟩:=aD y.heap.size;rw[<-hqq]at HB3 hq ql⊢;clear d a V c2 f2 hqq;go_wp2_with fail
  refine aN H2.o ?_;rintro y2 ⟨d,a⟩;have HI0:=au (show Nonempty (XY w p q bs G c 0 E y2)from⟨⟨av none 0 0,none,[],r2.2,by rw[Zk.o];exact a.at HB3.o (by simp;omega),Seg.nil _ _ _,by simp,a.at HX3.o (by simp;omega),d,HC3.o.trans a,rfl,HE2.o⟩⟩);rw[HCN.o]at c0 c1⊢;clear d a;go_wp2_with fail
  go_loopw [24] (λi wr=>∃j:Nat,i=an ar j/\j<=c/\Nonempty (XY w p q bs G c j E wr)) (λi _=>c-(intOf i).toNat)
  case atStart=>exact⟨0,rfl,bz _,HI0.o⟩
  case round=>
   obtain⟨j,rfl,hj,⟨hi⟩⟩:=hrel;obtain⟨ev,eg,es,st,L,f,m,A,d,a,hl,he⟩:=hi;have r:=d;obtain⟨⟨v,I,_⟩,_⟩:=d;have cb:=aF I 2 rfl;have gl:=az L;obtain⟨ea,ec,rfl,_⟩:=f.len;have⟨q0,q1⟩:=dk L;have⟨x0,x1⟩:=dk A;have y0:=bB A 0;have y1:=bB A 1;have M:=au (show st.2=true∨j=c->((wr.setCell ⟨w,0,none⟩ (aw G)).setCell ⟨w,1,none⟩ (av ea es.length ec)).heap[w.heap.size]? =some (aB #[aw G,av ea es.length ec] 273 (0,0))/\Q (ax (aG #[aw G,av ea es.length ec])) ((wr.setCell ⟨w,0,none⟩ (aw G)).setCell ⟨w,1,none⟩ (av ea es.length ec))fromλh=>by
    have e:E=(es,st):=by
     rw[<-he];obtain h|h:=h
     .exact J8 h
     .rw[h,Nat.sub_self];rfl
    have h1:E.1=es:=by rw[e]
    have h2:E.2=st:=by rw[e]
    exact ke.o q wr _ eg hq A (by rw[h1];exact f) m (by rw[h2];exact r) a (by rw[h1];omega))
   by_cases hlt:j<c
   .cases hst:st.2
    .have H4:=A4 r 4 (by decide) (by decide)
     have b4:=O8 Cv.o 4 (by decide) st;have H:=QX (n:=c-(j+1)) (es:=es) (bs:=bs) hst;rw[show c-(j+1)+1=c-j by omega,he]at H;have⟨r4,hr4⟩:=aD (eW bs 4 st);rw[<-hr4]at H4 H b4;obtain⟨n4,a4,bb⟩:=r4;simp only at H4 H b4;have⟨r5,W⟩:=aD (eW bs 2 (a4,bb||decide (1114111<n4)));rw[<-W]at H;have⟨W4,X⟩:=aD (IntKind.i32.wrap n4);rw[<-X]at H;have⟨HH4,HS,Zf,l,HX,HC⟩:=eC H4 H f m A a;have⟨B,HL,HR5,HW4⟩:=c_ L hl W X;have hl5:es.length<=100000:=by omega
     have z2:(j:Int)<(c:Int):=by omega
     rw[hst]at cb;clear r H f m A a L hl W X hr4 he I hst;go_wp2_with fail
     refine aN HH4.o ?_;rintro z ⟨hrz,hcz⟩;have⟨Xa,HCZ⟩:=aK hrz hcz;obtain⟨⟨v,Y,_⟩,_⟩:=hrz;have c2:=aF Y 2 rfl;have f2:=bB Y 2;clear hcz Y cb q0 q1 x0 x1 y0 y1;go_upto_region 8 with fail
     go_cut [] (λwr=>mz wr p bs (a4,bb||decide (1114111<n4))/\aQ [p] z wr)
     case first=>
      cases bb
      .have B:=au (Xa.o.bad (aQ.refl _ _) (decide (1114111<n4)))
       go_wp2;go_meet;exact B.o
      .have B:=au (Xa.o.bad (aQ.refl _ _) true)
       go_wp2;go_meet;exact B.o
     case rest=>
      obtain⟨d,a⟩:=hcut;have Z:=HCZ.o.trans a;have H5:=au (λ(y:ae) (hy:aQ ([]:List Nat) wc y)=>(A4 (d.below hy.aJ) 2 (by decide) (by decide)).mono λe w' hh=>by rw[<-HR5.o]at hh;exact hh);have hbw:=Z.at B.o (by simp;omega);have q1:=aF hbw 1 rfl;have⟨XJ,Ws⟩:=aK Z hbw;obtain⟨n5,st5⟩:=r5;simp only at H5;have HBo:=au B.o;clear d a Z hbw c2 f2;go_upto_region 9 with fail
      go_region_law (first
       |(refine dm (by rfl) 134 func134 (by kernel_rfl) (by kernel_rfl) (by rfl) _ (by kernel_rfl) (H5.o _ (by first|exact aQ.refl _ _|exact(aQ.refl _ _).drew)) ?_;rintro e z ⟨rfl,d,a⟩;refine⟨_,rfl,?_⟩;have hc2:aQ [p] wc z:=(by first|exact a|exact((aQ.refl _ _).drew).trans a);have hc3:=XJ.o.trans hc2;have⟨a',c',t,g',h1,h2,h3,h4⟩:=(Zf.o.bH hc3 (λb L=>by have:=l.o b L;simp;omega)).edge W4 n5 hl5;have gN:=au h1;have H2:=au h2;have H3:=au h3;have H4:=au h4;have H5c:=au hc3;have H6:=au d;have J:=hc2.at Ws.o (by simp;omega);have z6:z.cell? ⟨q,1,none⟩=some (av ea es.length ec):=(aF J _ rfl);have x:=h3.at J (by intro e;have:=l.o _ (by simpa using e);omega);have t6:t.cell? ⟨q,1,none⟩=some (av ea es.length ec):=(aF x _ rfl);have tf:t.frozen? ⟨q,1,none⟩=false:=(bB x _);have HTB:=au x;have tl:=az x;have zl:=az J;have hW:=HW4.o;subst hW;clear d a hc2 hc3 h1 h2 h3 h4 J x)
       |(refine kM (by rfl) (.tmp 44) (.tmp 50) 271 (by rfl) _ _ _ t (by rfl) (by rfl) (gN.o _) ?_)
       |fail)
      all_goals
       have HN:=au (show Nonempty (XY w p q bs G c (j+1) E (t.setCell ⟨q,1,none⟩ (av a' (es.length+1) c')))from aeV hq hpl HX.o HBo.o l.o HC.o HL.o HS.o.symm H5c.o H6.o H2.o H3.o H4.o HTB.o);go_wp2_with fail
       go_roundw
       case rel=>exact⟨j+1,by simp,by omega,HN.o⟩
       case measure=>simp[intOf];omega
    .have HF:=au (M.o (.inl hst))
     rw[hst]at cb;clear r f m A a L hl he I hst;go_wp2;refine fS (dV rfl rfl (Eo HF.o.1)) rfl ?_;exact HF.o.2
   .have HF:=au (M.o (.inr (by omega)))
    clear r f m A a L hl he I;go_wp2;refine fS (dV rfl rfl (Eo HF.o.1)) rfl ?_;exact HF.o.2
def uo(ns:List gO)(w:ae)(e:ak)(w':ae):Prop:=
 ai w w w'/\((jP ns=false/\e=ax (aL none))∨(jP ns=true/\∃p,e=ax (aL (some ⟨p,0,none⟩))/\rf w w' p (eO (jn ns).1)))
def QY{f:kT->List er->kT×Nat}{B:Nat}(c:∀st rs,rs.length<=B->(∀m∈st.nodes,m.bO.length<=B)->∀m∈(f st rs).1.nodes,m.bO.length<=B):
 ∀(k:Nat) (st:kT) (l:List er) (es:List eY),l.length<=B->es.length+k<=B->(∀m∈st.nodes,m.bO.length<=B)->
  (∀m∈(dz f k st l es).1.nodes,m.bO.length<=B)/\(dz f k st l es).2.length<=B:=by
 intro k
 induction k with
 |zero=>intro st l es _ b a;exact⟨by simpa[dz]using a,by simpa[dz]using b⟩
 |succ k d=>
  intro st l es e b a;cases l with
  |nil=>exact⟨by simpa[dz]using a,by simp[dz];omega⟩
  |cons x l=>
   rw[dz];refine d _ _ _ ?_ ?_ ?_
   .rw[j8];omega
   .rw[bF];simp;omega
   .refine c _ _ ?_ a
    unfold dR;rw[cr,dw];omega
def UE(B:Nat):∀(n:Nat) (st:kT) (rs:List er),rs.length<=B->(∀m∈st.nodes,m.bO.length<=B)->∀m∈(dS n st rs).1.nodes,m.bO.length<=B:=by
 intro n
 induction n with
 |zero=>intro st rs _ h;simpa[dS]using h
 |succ n d=>
  intro st rs e h;unfold dS;split
  .exact h
  .have b:(ew rs).length<=B:=by
    unfold ew;split
    .rw[List.length_tail];omega
    .exact e
   have c:=QY d (ew rs).length ⟨st.nodes++ [⟨false,[]⟩],st.keys++ [oY rs]⟩ (ew rs) [] b (by simpa using b) (λm a=>by
    simp only[dJ,cm]at a;obtain a|rfl:=a
    .exact h m a
    .simp)
   intro m a;obtain a|rfl:=jC a
   .exact c.1 m a
   .exact c.2
def Ep(ws:List er):∀m∈eO ws,m.bO.length<=ws.length:=by
 unfold eO;split
 .intro m a
  rw[List.mem_singleton.1 a];simp
 .exact UE _ 100 ⟨[],[]⟩ ws (aP _) (by simp)
def Nj{ws:List ByteArray}(h:fx ws=0)(c:∀s∈ws,s.size<=1000):(eO (ws.map (·.data.toList))).length<=100000:=by
 have⟨d,_,a⟩:=rR h;have e:tb (ws.map (·.data.toList))<=1000*(ws.map (·.data.toList)).length:=Up λy f=>by
  obtain⟨s,b,rfl⟩:=List.mem_map.1 f;exact c s b
 rw[cr]at e;unfold eO;split
 .simp
 .have:=(nI 100 ⟨[],[]⟩ _ a).1
  simp only[dx,eJ]at this;omega
def QZ{ns:List gO}{k j:Nat}(a:k<ns.length)(b:j<(ns.getD k ()).bO.length)(h:sW ns.length ((ns.getD k ()).bO.getD j ())=false):jP ns=false:=by
 have c:ns.all (λn=>n.bO.all (sW ns.length))=false:=by
  rw[List.all_eq_false];refine⟨ns.getD k (),bh ns k a,?_⟩;simp only[Bool.not_eq_true];rw[List.all_eq_false];exact⟨_,bh _ j b,by rw[h];decide⟩
 unfold jP;rw[c];simp
def aeY{w:ae}{gn:Option Nat}{vn:ah}{ms:List dP}(h:J1 w gn vn ms)(hl:ms.length<=100000):aj prog 136 #[vn] w (uo (ms.map dP.n) w):=by
 obtain⟨na,nc,rfl,_,TA⟩:=h.s.len;unfold maxLen at TA;have HH:=au h;have⟨a,hns⟩:=aD (ms.map dP.n);have⟨I,HN,HY⟩:=aX hns (show∀y,jP a=false->ai w w y->uo a w (ax (aL none)) y fromλy h1 h2=>⟨h2,.inl ⟨h1,rfl⟩⟩) (show∀y p,jP a=true->rf w y p (eO (jn a).1)->ai w w y->uo a w (ax (aL (some ⟨p,0,none⟩))) y fromλy p h1 h2 h3=>⟨h3,.inr ⟨h1,p,rfl,h2⟩⟩);rw[<-hns];generalize uo a w=Q at*;have⟨u0,hu0⟩:=aD (w.alloc (aB #[()] 306 (0,0)));have⟨k1,k2,k3⟩:=dt hu0;have⟨HG0,HB0,HU0⟩:=aX (show jm u0 w none () (ms.take 0)from⟨k1,Seg.nil _ _ _,λm d=>by simp at d,λb U=>(by simp at U),λm d=>by simp at d⟩) (show ai w w u0 from k2.aJ) hu0;clear h hns hu0 k1 k2 k3;go_in;go_upto_region 2 with fail
 rw[<-HU0.o];go_wp2_with fail
 go_loopw [16] (λi wr=>∃(k:Nat) (g:Option Nat) (v:ah),i=an ar k/\k<=ms.length/\(∀m∈ms.take k,m.n.bO.all (sW a.length)=true)/\jm wr w g v (ms.take k)/\(∀x,g=some x->w.heap.size<x)/\ai w w wr) (λi _=>ms.length-(intOf i).toNat)
 case atStart=>exact⟨0,none,_,rfl,bz _,by simp,HG0.o,by simp,HB0.o⟩
 case round=>
  obtain⟨k,g,v,rfl,hk,A,J,hg,U⟩:=hrel;by_cases C:k<ms.length
  .have hnd:=HH.o.below (Below.mono U (aP _))
   have⟨b1,o1,cc1,_,e1,bl1,Y⟩:=hnd.s.cell (by decide) k C;simp only[bG,bK]at e1;obtain⟨rfl,rfl⟩:=e1;have x0:=(Y 0 (aw (ms.getD k ()).n.fin) (by decide) (iy ms k 0 C (by decide))).1;have x1:=(Y 1 (ms.getD k ()).ev (by decide) (iy ms k 1 C (by decide))).1;simp only[bM]at x0;have r1:=hnd.r _ (bh ms k C);have le1:=hnd.el _ (bh ms k C);have Z:∀m∈ms,∀x,m.eb=some x->x<w.heap.size:=λm d x hx=>(show Seg w 303 2 m.eb m.ev _ _ from HH.o.r m d).lt x hx
   have hnk:a.getD k ()=(ms.getD k ()).n:=by rw[I.o];simp[aU,C]
   have B:a.length=ms.length:=by rw[I.o,cr]
   have HBAD:=au (show∀j,j<(ms.getD k ()).n.bO.length->sW ms.length ((ms.getD k ()).n.bO.getD j ())=false->jP a=false fromλj hj hf=>QZ (k:=k) (j:=j) (by omega) (by rw[hnk];exact hj) (by rw[hnk,B];exact hf));have htk:ms.take (k+1)=ms.take k++ [ms.getD k ()]:=by rw[fG C];simp[aU,C]
   have hmo:=Z _ (bh ms k C);have hto:∀m∈ms.take k,∀x,m.eb=some x->x<w.heap.size:=λm d=>Z m (List.mem_of_mem_take d)
   have htl:(ms.take k).length=k:=by rw[dw];omega
   have⟨P,hm1⟩:=aD (ms.getD k ());rw[<-hm1]at x0 x1 r1 le1 HBAD htk hmo;have⟨ea,ec,hev,_⟩:=Seg.len (show Seg wr 303 2 P.eb P.ev _ _ from r1);have⟨fin,hfin⟩:=aD P.n.fin;have⟨N,hes⟩:=aD P.n.bO;rw[<-hfin]at x0;rw[<-hes]at hev le1 HBAD;rw[hev]at x1;have r1':Seg wr 303 2 P.eb (av ea N.length ec) (rO N) N.length:=by
    have:=r1;unfold dP.row at this;rw[<-hes,hev]at this;exact this
   have⟨u,hu⟩:=aD (wr.alloc (aB #[aw fin,av ea N.length ec] 273 (0,0)));have⟨q1,q2,q3⟩:=dt hu;have⟨c0,c1⟩:=dk q1;have Wt:=U.trans (q2.aJ.mono U.size);have⟨HU,Wq,HR1,J_,Zl,Cw⟩:=eC hu q1 (r1'.bH q2 (by simp)) (show dP.row u P from(show Seg wr 303 2 P.eb P.ev _ _ from r1).bH q2 (by simp)) (J.bH q2 (by simp)) Wt;have⟨uq,HG,HTK,HTL,HMO,HTO⟩:=eC A hg htk htl hmo hto;have⟨Er,ke,CN⟩:=aX hes hfin hev;have gl0:=az q1;have z1:(0:Int)<=(k:Int):=by omega
   have z2:(k:Int)<(ms.length:Int):=by omega
   clear A J hg U hnd Y r1 r1' Z hnk B htk hmo hto htl hm1 hfin hes hev hu q1 q2 q3 Wt;go_upto_region 5 with fail
   rw[<-HU.o];have⟨X,hX⟩:=aD wr.heap.size;rw[<-hX]at Wq c0 c1 gl0⊢;clear hX x0 x1;go_wp2_with fail
   obtain⟨wo,rfl⟩:= @aD ae wr;go_loopw [23] (λi wr=>∃j:Nat,i=an ar j/\j<=N.length/\(∀e∈N.take j,sW ms.length e=true)/\ai u u wr) (λi _=>N.length-(intOf i).toNat)
   case atStart=>exact⟨0,rfl,bz _,by simp,aO _ _⟩
   case round=>
    obtain⟨j,rfl,hj,haj,F⟩:=hrel;by_cases V:j<N.length
    .have⟨eb,eo,ecc,_,e1,ebl,Nd⟩:=(HR1.o.bH (ch F) (by simp)).cell (by decide) j V
     simp only[bG,bK]at e1;obtain⟨rfl,rfl⟩:=e1;have x0:=(Nd 0 _ (by decide) (jc N j V).1).1;have x1:=(Nd 1 _ (by decide) (jc N j V).2).1;simp only[bM]at x0;have hbj:=HBAD.o j V;have aaW:sW ms.length (N.getD j ())=true->∀e∈N.take (j+1),sW ms.length e=true:=λh e he=>by
      rw[fG V,dJ]at he;obtain he|he:=he
      .exact haj e he
      .rw[List.mem_singleton.1 he]
       simpa[aU,V]using h
     have⟨E,hE⟩:=aD (N.getD j ());rw[<-hE]at x0 x1 hbj aaW;obtain⟨ru,tgt⟩:=E;simp only at x0 x1;have⟨t,ht⟩:=aD (wr.alloc (aB #[.int .i32 ru,tgt] 303 (0,0)));have⟨n1,n2,n3⟩:=dt ht;have t1:=aF n1 1 rfl;have⟨HT,QJ⟩:=aK ht (F.trans (n2.aJ.mono F.size));have Mi:=au (Cw.o.trans (QJ.o.mono Cw.o.size));have z4:(0:Int)<=(j:Int):=by omega
     have z5:(j:Int)<(N.length:Int):=by omega
     have⟨HBJ,HAJ⟩:=aK hbj aaW;clear haj F Nd hE ht n1 n2 n3 hbj aaW;go_upto_region 8 with fail
     rw[<-HT.o];clear x0 x1;by_cases ha:tgt<1
     .have K:=au (HN.o t (HBJ.o (by simp[sW];omega)) Mi.o)
      go_wp2;exact K.o
     .by_cases hc:(ms.length:Int)<=tgt
      .have K:=au (HN.o t (HBJ.o (by simp[sW];omega)) Mi.o)
       go_wp2;exact K.o
      .have HA2:=au (HAJ.o (by simp[sW];omega))
       go_wp2;go_roundw
       case rel=>exact⟨j+1,by simp,by omega,HA2.o,QJ.o⟩
       case measure=>simp[intOf];omega
    .have hjE:N.take j=N:=jY (by omega)
     rw[hjE]at haj;have H:=Zl.o.bH (ch F) (by simp);have hrw:dP.row wr P:=(show Seg u 303 2 P.eb P.ev _ _ from J_.o).bH (ch F) (by simp);have hq:=(ch F).at Wq.o (by simp);have O:=Cw.o.trans (F.mono Cw.o.size);obtain⟨va,vc,rfl,_,_⟩:=H.s.len;rw[HTL.o]at H;have⟨d0,d1⟩:=dk hq;have hgc:=H.c;have dg:=aF hgc 0 rfl;have ly2:=az hgc;have⟨a2,c2,t,g',T,htp,hgt,hgn,hbt⟩:=(H.bH ((aQ.refl ([]:List Nat) wr).drew) (by simp)).push P ((show Seg wr 303 2 P.eb P.ev _ _ from hrw).bH ((aQ.refl ([]:List Nat) wr).drew) (by simp)) HMO.o HTO.o HG.o (by rw[HTL.o];omega);rw[HTL.o]at T hgt hbt;rw[<-ke.o,CN.o]at T;have gN:=au T;have tg:=aF htp 0 rfl;have tf:=bB htp 0;have⟨HGT,HGN,QJ⟩:=aX hgt hgn (O.trans ((((aQ.refl ([]:List Nat) wr).drew).aJ.mono O.size).trans hbt));have HAE:=au (show∀m∈ms.take (k+1),m.n.bO.all (sW a.length)=true fromλm d=>by
      rw[HTK.o,dJ]at d;obtain d|d:=d
      .exact uq.o m d
      .rw[List.mem_singleton.1 d,<-Er.o,pC]
       have B:a.length=ms.length:=by rw[I.o,cr]
       rw[B];exact haj)
     clear haj F H hrw hq O hgc T htp hgt hgn hbt hjE c0 c1;have⟨W,hW⟩:=aD (t.setCell ⟨w,0,none⟩ (av a2 (k+1) c2));have H:=HGT.o;have O:=QJ.o;rw[<-hW,<-HTK.o]at H;rw[<-hW]at O;have⟨HGW,Ws,HW⟩:=aX H O hW;clear H O hW;go_upto_region 11 with fail
     go_region_law (first
      |(refine kM (by rfl) (.tmp 42) (.tmp 48) 304 (by rfl) _ _ _ t (by rfl) (by rfl) (gN.o _) ?_)
      |fail)
     all_goals
      go_wp2_with fail
      rw[<-HW.o];go_roundw
      case rel=>exact⟨k+1,g',_,by simp,by omega,HAE.o,HGW.o,HGN.o,Ws.o⟩
      case measure=>simp[intOf];omega
  .obtain rfl:k=ms.length:=by omega
   rw[fR]at A J;have B:a.length=ms.length:=by rw[I.o,cr]
   have hE:a.all (λn=>n.bO.all (sW a.length))=true:=by
    rw[pC];intro n hn;rw[I.o]at hn;obtain⟨m,d,rfl⟩:=List.mem_map.1 hn;exact A m d
   have hM:jP a=((decide (0<a.length)&&decide (a.length<=721))&&rh a&&(jn a).2&&decide (fx (jF a)=0)&&nL (eO (jn a).1) a):=by unfold jP;rw[hE];simp
   rw[B]at hM;by_cases hz:ms.length=0
   .have b0:((ms.length:Int)==0)=true:=by simp[hz]
    have K:=au (HN.o wr (by rw[hM,hz];simp) U);clear A J hg U hE hM B hz;go_wp2;exact K.o
   by_cases hbig:721<ms.length
   .have b0:((ms.length:Int)==0)=false:=by rw[j7];omega
    have b1:(721:Int)<(ms.length:Int):=by omega
    have K:=au (HN.o wr (by rw[hM,show decide (ms.length<=721)=false by simp;omega];simp) U);clear A J hg U hE hM B hz hbig;go_wp2;exact K.o
   have b0:((ms.length:Int)==0)=false:=by rw[j7];omega
   have b1:¬(721:Int)<(ms.length:Int):=by omega
   have hM2:jP a=(rh a&&(jn a).2&&decide (fx (jF a)=0)&&nL (eO (jn a).1) a):=by
    rw[hM,show decide (0<ms.length)=true by simp;omega,show decide (ms.length<=721)=true by simp;omega];simp
   have hko:XO ms:=⟨λm d e he=>by
    have h1:=List.all_eq_true.1 (A m d) e he;rw[B]at h1;simp[sW]at h1;omega,by omega,HH.o.el,by omega⟩
   have⟨HM,HKO,HWH⟩:=aX hM2 hko (aaR J hko);rw[<-I.o]at HWH;have⟨Zl,HB⟩:=aK J U;have bgl:=U.size;clear A J hg U hE hM B hz hbig hM2 hko;have⟨Bw,hBw⟩:=aD (rh a);rw[<-hBw]at HM HWH;have Ws:=au hBw;clear hBw;go_wp2_with fail
   refine HWH.m ?_;rintro e z ⟨rfl,hz⟩;have⟨HGZ,Wu⟩:=aK (Zl.o.bH (ch hz) (by simp)) (HB.o.trans (hz.mono bgl));have zgl:=Wu.o.size;clear hz;cases Bw
   .have K:=au (HN.o z (by rw[HM.o];simp) Wu.o)
    go_wp2;exact K.o
   have XF:=au (aeS HGZ.o HKO.o);rw[<-I.o]at XF;obtain⟨⟨WL,Bs⟩,hBs⟩:∃b,b=jn a:=⟨_,rfl⟩
   rw[<-hBs]at HM XF;have HBS:=au hBs;clear hBs;go_wp2_with fail
   refine XF.m ?_;rintro e y ⟨lb,lv,rfl,hsg,_,h61,hy⟩;have⟨HGY,Uf⟩:=aK (HGZ.o.bH (ch hy) (by simp)) (Wu.o.trans (hy.mono zgl));have ygl:=Uf.o.size;simp only at hsg h61;have hrd:=xc (aT.gP hsg (λ_=>rfl) (by decide):aT t_ 1 y lv WL);have hwB:(WL.map λl:er=>(⟨l.toArray⟩:ByteArray))=jF a:=by unfold jF;rw[<-HBS.o]
   rw[hwB]at hrd;have⟨qH,H61⟩:=aK hrd h61;clear hsg h61 hy hrd hwB;simp only;cases Bs
   .have K:=au (HN.o y (by rw[HM.o];simp) Uf.o)
    go_wp2;exact K.o
   by_cases M:fx (jF a)=0
   rotate_left
   .have Wv:=au (O9 lv (jF a) y qH.o (ri a) M)
    have hb1:(fx (jF a) !=0)=true:=by simpa using M
    have d:jP a=false:=by rw[HM.o];simp[M]
    generalize fx (jF a)=G at*;have HMF:=au d;clear M d;go_wp2_with fail
    refine Wv.m ?_;rintro e x ⟨rfl,hx⟩;have K:=au (HN.o x HMF.o (Uf.o.trans (hx.mono ygl)));clear hx;go_wp2;exact K.o
   have Wv:=au (JZ lv (jF a) y qH.o (ri a) M);have d:jP a=nL (eO WL) a:=by rw[HM.o,M];simp
   have HMF:=au d;have hws:(jF a).map (·.data.toList)=WL:=by rw[AS,<-HBS.o]
   have HWS:=au hws;have hbl:=Nj M (ri a);rw[hws]at hbl;have sB:=au hbl;clear hbl M d hws;go_wp2_with fail
   refine Wv.m ?_;rintro e x ⟨q,rfl,hgq,hx⟩;rw[HWS.o]at hgq;have⟨HXB,HGX,HGQ⟩:=aX (Uf.o.trans (hx.mono ygl)) (HGY.o.bH (ch hx) (by simp)) hgq;obtain⟨g2,v2,ms2,h1,h2,h3,h4⟩:=hgq;have hel:∀m∈ms2,m.n.bO.length<=1000000:=λm d=>by
    have:=Ep WL m.n (by rw[<-h2];exact List.mem_map.2 ⟨m,d,rfl⟩);have:=H61.o;omega
   have HL:=au (aeA h1 HGX.o hel (by rw[<-cr (f:=dP.n),h2];exact bD sB.o (by decide)));rw[h2,<-I.o]at HL;have⟨L,hL⟩:=aD (nL (eO WL) a);rw[<-hL]at HL HMF;have HQY:=au (show∀y,jP a=true->ai x x y->Q (ax q) y fromλy e hy=>HY.o y q e (by rw[<-HBS.o];exact(rf.below ((show rf w x q (eO WL)from(by have⟨_,_,_,a1,a2,a3,a4⟩:=HGQ.o;exact⟨_,_,_,a1,a2,by have:=Uf.o.size;omega,a4⟩))) hy)) (HXB.o.trans (hy.mono HXB.o.size)));have xgl:=HXB.o.size;clear hx h1 h2 h3 h4 hel hL;go_wp2_with fail
   refine HL.m ?_;rintro e y ⟨rfl,hy⟩;cases L
   .have K:=au (HN.o y HMF.o (HXB.o.trans (hy.mono xgl)))
    clear hy;go_wp2;exact K.o
   .have K:=au (HQY.o y HMF.o hy)
    clear hy;go_wp2;exact K.o
def GrO(B:Nat)(w:ae)(v:ah):Option (List gO)->Prop
 |none=>v=aL none
 |some ns=>∃p,v=aL (some ⟨p,0,none⟩)/\rf B w p ns
def CP(r:Option (List gO)×Int)(w:ae)(e:ak)(w':ae):Prop:=
 ∃v,e=ax (aM #[v,an ar r.2])/\GrO w w' v r.1/\ai w w w'
def Es{n:Int}{w':ae}(h:ai w w w'):CP (none,n) w (ax (aM #[aL none,n])) w':=⟨_,rfl,rfl,h⟩
structure UG(w:ae)(bs:List Int)(n j:Nat)(R:List gO×(Nat×Bool))(nv:ah)(wr:ae)where
 ng:Option Nat
 ms:List dP
 st:Nat×Bool
 s:Seg wr 273 2 ng nv (xM ms) ms.length
 r:∀m∈ms,m.row wr
 el:∀m∈ms,m.n.bO.length<=65535
 o1:∀x,ng=some x->w.heap.size<x
 o2:∀m∈ms,∀x,m.eb=some x->w.heap.size<x/\ng≠some x
 rd:mz wr w bs st
 c:ai w w wr
 l:ms.length=j
 e:oH bs (n-j) st (ms.map dP.n)=R
def Q0:(prog.info? 273).map (λi=>(i.zero,i.size,i.bytes))=some (some (aG #[aw false,()]),2,32):=by kernel_rfl
def Seg.node2{g:Option Nat}{v:ah}{l:List dP}(h:Seg w 273 2 g v (xM l) l.length)(m:dP)(i:m.ev.oneCell'=true)(q:l.length<=100000):
 ∃c d t g',(∀j,(Builtin.append_ #[270,270] j #[v,av (some ⟨w,0,none⟩) 1 1]).run prog (w.alloc (aB #[aw m.n.fin,m.ev] 273 (0,0)))=.ok (av c (l.length+1) d) t)/\Seg t 273 2 g' (av c (l.length+1) d) (xM (l++ [m])) (l++ [m]).length/\aQ g.toList w t/\(g'=g∨∃b,g'=some b/\w.heap.size<=b):=by
 have⟨r,k,g',a,e,o,p⟩:=h.push 270 underlying270 Q0 rfl (by decide) m.cells rfl (λu f=>by
  simp only[dP.cells,bQ,ez,or_false]at f;obtain rfl|rfl:=f
  .rfl
  .exact i) (by omega) (by decide)
 obtain⟨c,d,rfl,_⟩:=e.len;refine⟨c,d,k,g',a,?_,o,p⟩;rw[JK,bF];exact e
def Q3{bs:List Int}{n:Nat}{s:Nat×Bool}{ns:List gO}(h:s.2=false):oH bs (n+1) s ns=oH bs n (AW bs s).2 (ns++ [(AW bs s).1]):=by
 conv=>lhs;unfold oH
 rw[h];rfl
def Ka{bs:List Int}{n:Nat}{s:Nat×Bool}{ns:List gO}(h:s.2=true):oH bs n s ns=(ns,s):=by
 cases n
 .rfl
 .unfold oH
  rw[h];rfl
theorem UG.next{wr z t:ae}{bs:List Int}{n j:Nat}{R:List gO×(Nat×Bool)}{i g' eg:Option Nat}{ms:List dP}{x:gO×(Nat×Bool)}{ev:ah}{L:Option Addr}{M:Nat}
 (N:∀m∈ms,m.row wr) (A:∀m∈ms,m.n.bO.length<=65535) (B:∀x,i=some x->w.heap.size<x) (C:∀m∈ms,∀x,m.eb=some x->w.heap.size<x/\i≠some x) (O:∀x,i=some x->x<wr.heap.size)
 (Q:ai w w wr) (T:ms.length=j) (U:oH bs (n-(j+1)) x.2 (ms.map dP.n++ [x.1])=R) (E:w.heap.size<wr.heap.size)
 (F:aQ [w.heap.size] wr z) (k:Seg z 303 2 eg ev (rO x.1.bO) x.1.bO.length) (l:∀y,eg=some y->wr.heap.size<=y) (G:mz z w bs x.2) (H:x.1.bO.length<=65535)
 (V:Seg t 273 2 g' (av L (ms.length+1) M) (xM (ms++ [⟨x.1,ev,eg⟩])) (ms++ [(⟨x.1,ev,eg⟩:dP)]).length) (g:aQ i.toList z t) (o:g'=i∨∃b,g'=some b/\z.heap.size<=b):Nonempty (UG w bs n (j+1) R (av L (ms.length+1) M) t):=by
 have p:=λy d=>k.lt y d
 have I:=F.size;have J:∀y,g'=some y->w.heap.size<y:=λy d=>by
  obtain e|⟨b,e,W⟩:=o
  .exact B y (by rw[<-e,d])
  .rw[d]at e
   simp only[bA]at e;omega
 have h:∀m∈ms++ [(⟨x.1,ev,eg⟩:dP)],m∈ms∨m=⟨x.1,ev,eg⟩:=λm f=>by simpa using f
 have q:∀y,y<=w.heap.size->y∉i.toList:=λy d e=>by have:=B y (by simpa using e);omega
 refine⟨⟨g',ms++ [⟨x.1,ev,eg⟩],x.2,V,λm f=> ?_,λm f=> ?_,J,λm f y d=> ?_,?_,?_,by rw[bF,T];rfl,by rw[gF];exact U⟩⟩
 .obtain f|rfl:=h m f
  .refine(show Seg z 303 2 m.eb m.ev _ _ from(show Seg wr 303 2 m.eb m.ev _ _ from N m f).bH F (λy d=>by have:=(C m f y d).1;simp;omega)).bH g (λy d e=>(C m f y d).2 (by simpa using e))
  .exact k.bH g (λy d e=>by have:=O y (by simpa using e);have:=l y d;omega)
 .obtain f|rfl:=h m f
  .exact A m f
  .exact H
 .have r:w.heap.size<y/\i≠some y/\y<z.heap.size:=by
   obtain f|rfl:=h m f
   .have⟨s,K⟩:=C m f y d
    exact⟨s,K,bP ((show Seg wr 303 2 m.eb m.ev _ _ from N m f).lt y d) I⟩
   .have s:=l y d
    exact⟨by omega,λe=>by have:=O y e;omega,p y d⟩
  refine⟨r.1,λe=> ?_⟩;obtain u|⟨b,u,W⟩:=o
  .exact r.2.1 (by rw[<-u,e])
  .rw[e]at u
   simp only[bA]at u;omega
 .obtain⟨⟨v,s,K,P⟩,X,Y,Z⟩:=G
  exact⟨⟨v,g.at s (q _ (aP _)),K.bH g (λa n c e=>q _ (lH (P a n c e))),P⟩,X,Y,Z⟩
 .exact(Q.trans (F.below (by simp) (lH E))).trans (g.below (λy d=>by have:=B y (by simpa using d);omega) (by omega))
def aji{xs ys:List Int}(c:cQ xs)(d:cQ ys)(h:Go.strOfNums xs=Go.strOfNums ys):xs=ys:=by
 have e:∀a:List Int,cQ a->(Go.strOfNums a).data.toList.map (λb=>(b.toNat:Int))=a:=λa f=>by
  rw[Go.strOfNums_data,fT]
  conv=>rhs;rw[<-List.map_id a]
  refine jh λn g=> ?_
  have:=f n g;simp;omega
 rw[<-e xs c,<-e ys d,h]
def Kb:cQ Em:=λx a=>by
 simp only[Em,bQ,ez,or_false]at a;omega
def Q4:Go.strOfNums Em=⟨#[73,78,75,49]⟩:=rfl
def X2(v:ah)(bs:List Int)(w:ae)(h:dc w .u8 v bs)(l:cQ bs)(hlen:bs.length<=1000000):
 aj prog 109 #[v] w (CP (iz bs) w):=by
 have qH:=au h;obtain⟨a,cap,rfl,hm,⟨hcap,_⟩,C⟩:=h;clear hm;by_cases H:bs.length<4
 .have hd:iz bs=(none,9):=by unfold iz;rw[aI H]
  rw[hd];have A:=au (Es (n:=9) (aO w w));generalize CP (none,9) w=Q at*;have q1:(bs.length:Int)-4<0:=by omega
  clear hd C l H;go_in;go_wp2;exact A.o
 have q1:¬(bs.length:Int)-4<0:=by omega
 obtain⟨n,hn⟩:∃n,bs.length=n+4:=⟨bs.length-4,by omega⟩
 have I:=au (Qn _ bs n 4 w qH.o l (by decide) (by decide) (by omega));rw[aI (by omega)]at I;have E:=zS qH.o n (by omega);have HS:=au (WZ _ (bs.take n) w E);have hs0:0<=l_ (bs.take n)/\l_ (bs.take n)<=4294967295:=⟨bits_lo_u32 .xor _ _,bits_hi_u32 .xor _ _⟩;have⟨c0,c1⟩:=FV l n 4 (by decide);have r:iz bs=if oD bs n 4≠l_ (bs.take n)then(none,(9:Int))else if n<4∨bs.take 4≠Em then(none,8)else if(CO (bs.take n)).2.2=true∨(CO (bs.take n)).2.1≠n then(none,8)else if jP (CO (bs.take n)).1 then(some (eO (jn (CO (bs.take n)).1).1),0)else(none,8):=by
  unfold iz;rw[aC H,hn];simp only[Nat.add_sub_cancel]
 rw[r];generalize oD bs n 4=c at*;have⟨S,hS⟩:=aD (l_ (bs.take n));rw[<-hS]at HS hs0⊢;obtain⟨s0,s1⟩:=hs0;rw[hn]at I qH q1 hcap hlen⊢;have q5:¬(n:Int)<0:=by omega
 by_cases F:c=S
 rotate_left
 .rw[aI F]
  have A:=au (Es (n:=9) (aO w w));generalize CP (none,9) w=Q at*;have b2:(c !=S)=true:=by simpa using F
  clear C l H r hS F E;go_in;go_wp2_with fail
  refine aH I.o ?_;go_wp2_with fail
  refine aH HS.o ?_;go_wp2;exact A.o
 have b2:(c !=S)=false:=by simpa using F
 rw[aC (by simpa using F)];by_cases M:n<4
 .rw[aI (.inl M)]
  have A:=au (Es (n:=8) (aO w w));generalize CP (none,8) w=Q at*;have q4:(n:Int)<4:=by omega
  clear C l H r hS F E M;go_in;go_wp2_with fail
  refine aH I.o ?_;go_wp2_with fail
  refine aH HS.o ?_;go_wp2;exact A.o
 have q4:¬(n:Int)<4:=by omega
 obtain⟨b,off,rfl,hbw,_⟩:=C 2 (by omega);have ae3:(convert 188 9 (av (some ⟨b,off,none⟩) 4 cap)).run prog w=.ok (aA (Go.strOfNums (bs.take 4))) w:=
  Go.run_convert_bytes_arg w 188 5 underlying188 underlying5 b off 4 cap _ (by rw[dw];omega) (λi hi=>by
   have⟨b',off',e,_,J⟩:=C i (by omega);simp only[bA,dr,et]at e;obtain⟨rfl,rfl⟩:=e;rw[J];congr 2;simp[aU,List.getElem?_take,hi]) 9 underlying9
 have hh:bs.take 4=Em↔Go.strOfNums (bs.take 4)=⟨#[73,78,75,49]⟩:=⟨λe=>by rw[e];rfl,λe=>aji (sS l 4) Kb (e.trans Q4.symm)⟩;generalize Go.strOfNums (bs.take 4)=S4 at*;by_cases N:S4=⟨#[73,78,75,49]⟩
 rotate_left
 .rw[aI (.inr λe=>N (hh.1 e))]
  have A:=au (Es (n:=8) (aO w w));generalize CP (none,8) w=Q at*;have b4:(S4.toList==[73,78,75,49])=false:=by
   rw[j7,Go.ByteArray.toList_eq];intro e;apply N;have:S4=⟨S4.data.toList.toArray⟩:=rfl;rw[this,e]
  clear C l H r hS F E M hh N;go_in;go_wp2_with fail
  refine aH I.o ?_;go_wp2_with fail
  refine aH HS.o ?_;go_wp2;exact A.o
 have b4:(S4.toList==[73,78,75,49])=true:=by
  rw[N,Go.ByteArray.toList_eq];rfl
 rw[aC (λe=>e.elim M λe=>e (hh.2 N))];have X:=sS l n;have O:(bs.take n).length=n:=by rw[dw];omega
 have⟨B,hB⟩:=aD (bs.take n);rw[<-hB]at E X O⊢;have⟨u,hu⟩:=aD (w.alloc (aB #[av (some ⟨b,off,none⟩) n cap,an ar 4,aw false] 269 (0,0)));have⟨g1,gg,gl⟩:=dt hu;have P:mz u w B (4,false):=⟨⟨_,g1,E.below gg.aJ,λa n c e=>by
  simp only[bG,bA]at e;obtain⟨rfl,_⟩:=e;exact hbw⟩,X,by omega,by rw[O];omega⟩
 have hn1:=A4 P 2 (by decide) (by decide);have hcn:=J9 X (4,false);obtain⟨d,T⟩:∃k:Nat,(eW B 2 (4,false)).1=k:=⟨(eW B 2 (4,false)).1.toNat,by omega⟩
 have⟨R,L⟩:=aD (CO B);have hR2:oH B d (eW B 2 (4,false)).2 []=R:=by rw[L];unfold CO;rw[T,gE]
 rw[<-L];rw[T]at hcn hn1;have⟨V,hV⟩:=aD (if R.2.2=true∨R.2.1≠n then(none,(8:Int))else if jP R.1 then(some (eO (jn R.1).1),0)else(none,8));rw[<-hV];have⟨HBAD,HNM,HYM⟩:=aX (show∀y,(R.2.2=true∨R.2.1≠n)->ai w w y->CP V w (ax (aM #[aL none,an ar 8])) y fromλy W h2=>by rw[hV,aI W];exact Es h2) (show∀y,¬(R.2.2=true∨R.2.1≠n)->jP R.1=false->ai w w y->CP V w (ax (aM #[aL none,an ar 8])) y fromλy W h2 F=>by rw[hV,aC W,h2];exact Es F) (show∀y p,¬(R.2.2=true∨R.2.1≠n)->jP R.1=true->rf w y p (eO (jn R.1).1)->ai w w y->CP V w (ax (aM #[aL (some ⟨p,0,none⟩),an ar 0])) y fromλy p W h2 F N=>by rw[hV,aC W,h2];exact⟨_,rfl,⟨p,rfl,F⟩,N⟩);generalize CP V w=Q at*;have⟨Mh,HU,HG,HR2⟩:=c_ hn1 hu gg hR2;have c4:d<65536:=by omega
 clear C l H r hS F E M hh N X hB hu g1 gg P hn1 T L hR2 hV hcn;go_in;go_wp2_with fail
 refine aH I.o ?_;go_wp2_with fail
 refine aH HS.o ?_;go_upto_region 11 with fail
 rw[<-HU.o];clear ae3 b4 b2;go_wp2_with fail
 refine aN Mh.o ?_;rintro y ⟨Y,J⟩;have HI0:=au (show Nonempty (UG w B d 0 R () y)from⟨⟨none,[],(eW B 2 (4,false)).2,Seg.nil _ _ _,by simp,by simp,by simp,by simp,Y,HG.o.aJ.trans (J.below (by simp) (lH gl)),rfl,HR2.o⟩⟩);clear Y J;go_wp2_with fail
 go_loopw [8,43] (λv i wr=>∃j:Nat,i=an ar j/\j<=d/\Nonempty (UG w B d j R v wr)) (λ_ i _=>d-(intOf i).toNat)
 case atStart=>exact⟨0,rfl,bz _,HI0.o⟩
 case round=>
  obtain⟨j,rfl,hj,⟨hi⟩⟩:=hrel;obtain⟨ng,ms,Z,hs,Y,K,o1,o2,P,J,H,he⟩:=hi;have s:=P;obtain⟨⟨v,G,_⟩,_⟩:=P;have cb:=aF G 2 rfl;have ca:=aF G 1 rfl;have pl:=az G;obtain⟨na,nc,rfl,_⟩:=hs.len;have ae4:=au (aeY (show J1 wr ng (av na ms.length nc) ms from⟨hs,Y,λm hm=>by have:=K m hm;omega⟩) (by omega));have f:Z.2=true∨j=d->R=(ms.map dP.n,Z):=λh=>by
   rw[<-he];obtain h|h:=h
   .exact Ka h
   .rw[h,Nat.sub_self];rfl
  cases hst:Z.2
  .by_cases hlt:j<d
   .have hnd:=aaU s
    have he2:=Q3 (bs:=B) (n:=d-(j+1)) (ns:=ms.map dP.n) hst;rw[show d-(j+1)+1=d-j by omega,he]at he2;have⟨x,hx⟩:=aD (AW B Z);rw[<-hx]at hnd he2;have⟨HND,HE,HS,HR,HEL,HO1⟩:=eC hnd he2.symm hs Y K o1;have⟨HO2,HC,HL⟩:=aX o2 J H;have hms:ms.length<=100000:=by omega
    have z2:(j:Int)<(d:Int):=by omega
    rw[hst]at cb;obtain⟨⟨f1,es1⟩,st1⟩:=x;clear s hs Y K o1 o2 J H he he2 f hnd hx hst G ca;go_wp2_with fail
    refine HND.m ?_;rintro e z ⟨ev,eg,rfl,hes,heg,hrz,hcz,hxl⟩;simp only at hes hrz hxl;have⟨ea,ec,hev,_⟩:=hes.len;have⟨a',c',t,g',W,h2,F,N⟩:=(HS.o.bH hcz (λb hb=>by have:=HO1.o b hb;simp;omega)).node2 ⟨⟨f1,es1⟩,ev,eg⟩ (by rw[hev];rfl) hms;have HN:=au (UG.next (x:=(⟨f1,es1⟩,st1)) (n:=d) HR.o HEL.o HO1.o HO2.o (λx hx=>HS.o.lt x hx) HC.o HL.o HE.o pl hcz hes heg hrz hxl h2 F N);simp only at W;rw[hev]at W;have gN:=au W;subst hev;clear hes heg hrz hcz W h2 F N hxl;go_wp2_with (refine cE (by rfl) (.tmp 49) (.tmp 52) 270 (by rfl) _ _ _ t (by rfl) (by rfl) (gN.o _) ?_);go_roundw
    case rel=>exact⟨j+1,by simp,by omega,HN.o⟩
    case measure=>simp[intOf];omega
   .obtain rfl:j=d:=by omega
    have L:=f (.inr rfl);by_cases U:Z.1=n
    .have b3:((Z.1:Int) !=(n:Int))=false:=by simp[U]
     have hng:¬(R.2.2=true∨R.2.1≠n):=by rw[L];simp[hst,U]
     have⟨HNG,HR1,HC⟩:=aX hng (show R.1=ms.map dP.n by rw[L]) J;rw[hst]at cb;generalize Z.1=s1 at*;clear s hs Y K o1 o2 J H he f hst G L hng U;go_wp2_with fail
     refine ae4.m ?_;rintro e z ⟨hz,hm|hm⟩
     .obtain⟨m1,rfl⟩:=hm
      have A:=au (HNM.o z HNG.o (by rw[HR1.o];exact m1) (HC.o.trans (hz.mono HC.o.size)));clear hz m1;go_wp2;exact A.o
     .obtain⟨m1,q,rfl,hq⟩:=hm
      have A:=au (HYM.o z q HNG.o (by rw[HR1.o];exact m1) (by rw[HR1.o];obtain⟨g,v,ms,k1,k2,k3,k4⟩:=hq;exact⟨g,v,ms,k1,k2,bD HC.o.size k3,k4⟩) (HC.o.trans (hz.mono HC.o.size)));clear hz m1 hq;go_wp2;exact A.o
    .have b3:((Z.1:Int) !=(n:Int))=true:=by simp;omega
     have A:=au (HBAD.o wr (.inr (by rw[L];exact U)) J);rw[hst]at cb;generalize Z.1=s1 at*;clear s hs Y K o1 o2 J H he f hst G L U;go_wp2;exact A.o
  .have L:=f (.inl hst)
   have A:=au (HBAD.o wr (.inl (by rw[L];exact hst)) J);have hq:=Nat.lt_or_ge j d|>.imp id Nat.not_lt.2;rw[hst]at cb;clear s hs Y K o1 o2 J H he f hst G L;obtain hq|hq:=hq
   .go_wp2
    exact A.o
   .go_wp2
    exact A.o
section
open Go.ChangeMaps mX
structure jB where
 v:sD
 a:Nat
 gv:ah
 nv:ah
 gb:Option Nat
 nb:Option Nat
def Kc(v:sD):Prop:=cQ v.good/\cQ v.now/\0<v.good.length/\v.good.length<=100000/\v.now.length=v.good.length/\0<=v.s/\v.s<=5
structure X3(τ:cj)(w:ae)(i:Nat)(m:jB):Prop where
 c:w.heap[m.a]? =some (aB #[m.gv,m.nv] 211 (0,0))
 g:Seg w 5 1 m.gb m.gv (lJ m.v.good) m.v.good.length
 n:Seg w 5 1 m.nb m.nv (lJ m.v.now) m.v.now.length
 ta:τ m.a=.FR i m.v.s
 tg:∀b,m.gb=some b->τ b=.keep
 tn:∀b,m.nb=some b->τ b=.keep
 ok:Kc m.v
variable{P:Tg->Prop}{τ br:cj}{w w':ae}
def Seg.fr{e sz n:Nat}{g:Option Nat}{v:ah}{cs:List ah}{t:Tg}(h:Seg w e sz g v cs n)(f:Fr P τ br w w')(c:∀b,g=some b->τ b=t)(j:¬P t):Seg w' e sz g v cs n/\∀b,g=some b->br b=t:=
 ⟨h.kept (f.kept (λx a=>h.lt x (by simpa using a)) (λx a=>by rw[c x (by simpa using a)];exact j)),λb d=>(f.old b (h.lt b d)).trans (c b d)⟩
variable{i:Nat}
def X3.fr{m:jB}(h:X3 τ w i m)(f:Fr P τ br w w')(d:¬P (.FR i m.v.s))(a:¬P .keep):X3 br w' i m:=by
 have⟨e,j⟩:=h.g.fr f h.tg a;have⟨k,l⟩:=h.n.fr f h.tn a;exact⟨f.at h.c (by rw[h.ta];exact d),e,k,(f.old _ (az h.c)).trans h.ta,j,l,h.ok⟩
def Cx(cN:List jB)(s:Int):Option ah:=(cN.find? (·.v.s==s)).map λm=>aL (some m.a)
structure kV(τ:cj)(w:ae)(i p b:Nat)(life:Int)(cN:List jB):Prop where
 c:w.heap[p]? =some (aB #[.map (some b),an ar life] 156 (0,0))
 m:je (aL none) w b (Cx cN) cN.length
 r:∀m∈cN,X3 τ w i m
 nd:(cN.map λm=>m.v.s).Nodup
 tp:τ p=.FQ i
 tb:τ b=.dmap i
 l0:0<=life
 l1:life<=1000000000
def iP(i:Nat)(t:Tg):Prop:=t=.FQ i∨t=.dmap i∨∃s,t=.FR i s
variable{b:Nat}
def kV.fr{life:Int}{cN:List jB}(h:kV τ w i p b life cN)(f:Fr P τ br w w')(a:∀t,iP i t->¬P t)(e:¬P .keep):kV br w' i p b life cN:=by
 have d:=h.m.lt;have g:=az h.c;exact⟨f.at h.c (by rw[h.tp];exact a _ (.inl rfl)),h.m.same (f.block b d (by rw[h.tb];exact a _ (.inr (.inl rfl)))),λm j=>(h.r m j).fr f (a _ (.inr (.inr ⟨_,rfl⟩))) e,h.nd,(f.old _ g).trans h.tp,(f.old _ d).trans h.tb,h.l0,h.l1⟩
def UH{cN:List jB}{s:Int}{v:ah}(h:Cx cN s=some v):∃m∈cN,m.v.s=s/\v=aL (some m.a):=by
 unfold Cx at h;cases hf:cN.find? (·.v.s==s)with
 |none=>rw[hf]at h;cases h
 |some m=>
  rw[hf]at h;simp only[Option.map_some,bA]at h;exact⟨m,List.mem_of_find?_eq_some hf,by simpa using List.find?_some hf,h.symm⟩
def UI{cN:List jB}(d:(cN.map λm=>m.v.s).Nodup){m:jB}(c:m∈cN):Cx cN m.v.s=some m.a:=by
 unfold Cx
 induction cN with
 |nil=>simp at c
 |cons a l f=>
  rw[gi,ji]at d;obtain rfl|c:=List.mem_cons.1 c
  .simp
  .have:a.v.s≠m.v.s:=λe=>d.1 (e▸List.mem_map.2 ⟨m,c,rfl⟩)
   rw[jg (by simpa using this)];exact f d.2 c
def vB(cN:List jB)(s:Int):Cx cN s=none∨∃m∈cN,m.v.s=s/\Cx cN s=some (aL (some m.a)):=by
 cases h:Cx cN s with
 |none=>exact .inl rfl
 |some v=>
  have⟨m,c,d,e⟩:=UH h;exact .inr ⟨m,c,d,by rw[e]⟩
def Kd(w:ae):(zeroValue 209).run prog w=.ok (aL none) w:=by kernel_rfl
def Pj(s:Int)(w:ae):aj prog 130 #[aL none,(s:Int)] w λe w'=>e=ax (aM #[aL none,an ar 1])/\w=w':=by
 go_in;go_wp2;go_ret2;exact⟨rfl,rfl⟩
def UJ{life:Int}{cN:List jB}(h:kV τ w i p b life cN)(s:Int)(g:ld s)(a:Cx cN s=none):aj prog 130 #[p,(s:Int)] w λe w'=>e=ax (aM #[aL none,an ar 4])/\w=w':=by
 have d:=h.m.look (t:=154) underlying154 Kd g;rw[a]at d;have f:=h.c;have j:=aF f 0 rfl;simp only[Option.getD_none]at d;clear h f a;go_in;go_wp2;go_ret2;exact⟨rfl,rfl⟩
def F5{life:Int}{cN:List jB}(h:kV τ w i p b life cN){s:Int}(j:ld s){a:Nat}(d:Cx cN s=some (aL (some a))):aj prog 130 #[aL (some p),s] w λe w'=>e=ax (aM #[aL (some a),an ar 0])/\w=w':=by
 have f:=h.m.look (t:=154) underlying154 Kd j;rw[d]at f;have g:=h.c;have k:=aF g 0 rfl;simp only[Option.getD_some]at f;clear h g d;go_in;go_wp2;go_ret2;exact⟨rfl,rfl⟩
def ae5{life:Int}{cN:List jB}(h:kV τ w i p b life cN):aj prog 55 #[p] w λe w'=>e=ax life/\w=w':=by
 have a:=h.c;have d:=aF a 1 rfl;clear h a;go_in;go_wp2;go_ret;exact⟨rfl,rfl⟩
def ae6{life:Int}{cN:List jB}(h:kV τ w i p b life cN)(k:life<1000000000):aj prog 106 #[p] w λe w'=>e=ax (life+1:Int)/\kV τ w' i p b (life+1) cN/\Fr (·=.FQ i) τ τ w w':=by
 have a:=h.c;have l:=aF a 1 rfl;have n:=bB a 1;have q:=h.l0;have hF:Fr (·=.FQ i) τ τ w (w.setCell ⟨p,1,none⟩ (life+1:Int)):=Fr.fm ((aQ.refl [p] w).setCell _ (by simp) _) (by simpa using h.tp);have d:kV τ (w.setCell ⟨p,1,none⟩ (life+1:Int)) i p b (life+1) cN:=
  ⟨by simpa using aE (i:=1) a (life+1:Int),h.m.same (hF.block b h.m.lt (by rw[h.tb];simp)),λm f=>(h.r m f).fr hF (by simp) (by simp),h.nd,h.tp,h.tb,by omega,by omega⟩
 have⟨g,j⟩:=aK d hF;clear h a hF d;go_in;go_wp2;go_ret;exact⟨rfl,g.o,j.o⟩
def UK(bs:List Int)(w:ae)(e:ak)(w':ae):Prop:=∃v,e=ax (aM #[v,an ar 0])/\(∃g,Seg w' 5 1 g v (lJ bs) bs.length/\∀x,g=some x->w.heap.size<=x)/\ai w w w'
def aaX{life:Int}{cN:List jB}(h:kV τ w i p b life cN){m:jB}(j:m∈cN):aj prog 108 #[p,m.v.s] w (UK m.v.now w):=by
 have d:=h.r m j;have⟨_,_,_,z,A,B,C⟩:=d.ok;have⟨E,l⟩:=aK (F5 h (eN (by omega) (by omega)) (UI h.nd j)) (uU m.nv m.v.now w (gC d.n) (by omega));have q:=d.c;have F:=aF q 1 rfl;have⟨M,N,f,_⟩:=d.n.len;rw[f]at F l;generalize m.a=a at*;generalize m.v.s=s at*;generalize m.v.now=now at*;have G:=au (show∀v g y,Seg y 5 1 g v (lJ now) now.length->(∀x,g=some x->w.heap.size<=x)->ai w w y->UK now w (ax (aM #[v,an ar 0])) y fromλv g y H I J=>⟨v,rfl,⟨g,H,I⟩,J⟩);generalize UK now w=Q at*;clear h d q f j z A B C;go_in;go_wp2_with fail
 refine aH E.o ?_;go_wp2_with fail
 refine l.m ?_;rintro e y ⟨K,rfl,g,k,t,u⟩;have L:=au (G.o K g y k t u);obtain⟨O,T,rfl,_⟩:=k.len;clear k t u;go_wp2;exact L.o
end
variable{P:Tg->Prop}{τ br:cj}
def dB(t:Tg):Prop:=t=.co∨t=.aS∨t=.slot∨t=.timer∨t=.FO∨(∃i,t=.FP i)∨(∃i,t=.mg i)∨t=.told∨∃k,t=.item k
structure Et where
 xs:List Int
 v:ah
 g:Option Nat
instance:Inhabited Et:=⟨⟨[],.slice none 0 0,none⟩⟩
def Et.cells(m:Et):List ah:=[m.v]
structure CpT(τ:cj)(w:ae)(cg:Option Nat)(cv:ah)(cs:List Et):Prop where
 s:Seg w 43 1 cg cv (cs.flatMap Et.cells) cs.length
 r:∀m∈cs,Seg w 3 1 m.g m.v (m.xs.flatMap dX) m.xs.length
 t:∀b,cg=some b->τ b=.keep
 tr:∀m∈cs,∀b,m.g=some b->τ b=.keep
def CpT.fr{c:Option Nat}{d:ah}{cs:List Et}(h:CpT τ w c d cs)(f:Fr P τ br w w')(b:¬P .keep):CpT br w' c d cs:=by
 have⟨e,g⟩:=h.s.fr f h.t b;exact⟨e,λm a=>((h.r m a).fr f (h.tr m a) b).1,g,λm a=>((h.r m a).fr f (h.tr m a) b).2⟩
structure CuT(τ:cj)(w:ae)(g:Option Nat)(v:ah)(cuts:List fI):Prop where
 s:Seg w 116 2 g v (cuts.flatMap fI.cells) cuts.length
 z:∀k∈cuts,k.text.size<=1000
 t:∀b,g=some b->τ b=.keep
def CuT.fr{g:Option Nat}{v:ah}{a:List fI}(h:CuT τ w g v a)(f:Fr P τ br w w')(b:¬P .keep):CuT br w' g v a:=by
 have⟨c,d⟩:=h.s.fr f h.t b;exact⟨c,h.z,d⟩
structure LsT(τ:cj)(w:ae)(p:Nat)(n term:Int)(L:List qF):Prop where
 a:dH w p n term L
 t:τ p=.aS
def LsT.fr{p:Nat}{n b:Int}{L:List qF}(h:LsT τ w p n b L)(f:Fr P τ br w w')(d:¬P .aS):LsT br w' p n b L:=
 ⟨⟨f.at h.a.c (by rw[h.t];exact d),h.a.l,h.a.n1,h.a.n5,h.a.t1,h.a.t2,h.a.ok⟩,(f.old _ (az h.a.c)).trans h.t⟩
structure SlT(τ:cj)(w:ae)(p a b:Nat)(who:List Int)(last:Int):Prop where
 at':eB w p a b who last
 tp:τ p=.slot
 ta:τ a=.slot
 tb:τ b=.slot
def SlT.fr{p a b:Nat}{d:List Int}{c:Int}(h:SlT τ w p a b d c)(f:Fr P τ br w w')(e:¬P .slot):SlT br w' p a b d c:=by
 have j:=az h.at'.1;have g:=h.at'.2.1.lt;have i:=h.at'.2.2.1.lt;exact⟨⟨f.at h.at'.1 (by rw[h.tp];exact e),h.at'.2.1.same (f.block _ g (by rw[h.ta];exact e)),h.at'.2.2.1.same (f.block _ i (by rw[h.tb];exact e)),h.at'.2.2.2⟩,(f.old _ j).trans h.tp,(f.old _ g).trans h.ta,(f.old _ i).trans h.tb⟩
structure TiT(τ:cj)(w:ae)(p:Nat)(g:Option Nat)(T:Int->Option Int)(n:Nat):Prop where
 a:mR w p 24 g T n
 t:∀x∈p::g.toList,τ x=.timer
def TiT.fr{p:Nat}{g:Option Nat}{T:Int->Option Int}{n:Nat}(h:TiT τ w p g T n)(f:Fr P τ br w w')(b:¬P .timer):TiT br w' p g T n:=
 ⟨h.a.kept (f.kept h.a.lt λx c=>by rw[h.t x c];exact b),f.tags h.a.lt h.t⟩
def X4(l:List En):List ah:=l.flatMap λh=> [an ar h.turn,an ar h.kU,an ar h.first,aw h.cZ]
structure jd where
 y:ej
 b:Nat
 p:Nat
 gs:Option Nat
 gt:Option Nat
 sv:ah
 tv:ah
 ms:List dQ
def jd.cells(m:jd):List ah:=[an ar m.y.id,an ar m.y.slot,aA m.y.text,an ar m.y.k,an ar m.y.n,aL (some m.p)]++X4 m.y.sh
structure ph(τ:cj)(w:ae)(m:jd):Prop where
 c:w.heap[m.b]? =some (aB m.cells.toArray 184 (0,0))
 mg:ir w m.p m.y.n m.gs m.gt m.sv m.tv m.ms m.y.mt
 ss:m.ms.map dQ.s=m.y.ss
 sh:m.y.sh.length=6
 tx:m.y.text.size<=1000
 t:τ m.b=.FP m.y.id
 tm:∀x∈eh m.p m.gs m.gt m.ms,τ x=.mg m.y.id
def ph.fr{m:jd}(h:ph τ w m)(f:Fr P τ br w w')(a:¬P (.FP m.y.id))(b:¬P (.mg m.y.id)):ph br w' m:=
 ⟨f.at h.c (by rw[h.t];exact a),h.mg.kept (f.kept h.mg.lt λx d=>by rw[h.tm x d];exact b),h.ss,h.sh,h.tx,(f.old _ (az h.c)).trans h.t,f.tags h.mg.lt h.tm⟩
def ur(qs:List jd)(id:Int):Option ah:=(qs.find? (·.y.id==id)).map λm=>aL (some m.b)
structure QsT(τ:cj)(w:ae)(qb:Nat)(qs:List jd):Prop where
 m:je (aL none) w qb (ur qs) qs.length
 r:∀m∈qs,ph τ w m
 nd:(qs.map λm=>m.y.id).Nodup
 t:τ qb=.FO
def QsT.fr{qb:Nat}{a:List jd}(h:QsT τ w qb a)(f:Fr P τ br w w')(b:¬P .FO)(c:∀i,¬P (.FP i))(d:∀i,¬P (.mg i)):QsT br w' qb a:=
 ⟨h.m.same (f.block qb h.m.lt (by rw[h.t];exact b)),λm e=>(h.r m e).fr f (c _) (d _),h.nd,(f.old _ h.m.lt).trans h.t⟩
structure lN where
 t:bZ
 iv:ah
 ig:Option Nat
instance:Inhabited lN:=⟨⟨default,.slice none 0 0,none⟩⟩
def lN.cells(m:lN):List ah:=[an ar m.t.id,aA m.t.text,an ar m.t.k,an ar m.t.n,m.iv,aw m.t.done,aw m.t.cancelled]
structure Q5(τ:cj)(w:ae)(tg:Option Nat)(tv:ah)(ts:List lN):Prop where
 s:Seg w 68 7 tg tv (ts.flatMap lN.cells) ts.length
 r:∀k (hk:k<ts.length),Seg w 83 2 (ts[k]).ig (ts[k]).iv (dT (ts[k]).t.items) (ts[k]).t.items.length
 t:∀b,tg=some b->τ b=.told
 tr:∀k (hk:k<ts.length),∀b,(ts[k]).ig=some b->τ b=.item k
def Q5.fr{b:Option Nat}{c:ah}{d:List lN}(h:Q5 τ w b c d)(f:Fr P τ br w w')(g:¬P .told)(e:∀k,¬P (.item k)):Q5 br w' b c d:=by
 have⟨i,j⟩:=h.s.fr f h.t g;exact⟨i,λk a=>((h.r k a).fr f (h.tr k a) (e k)).1,j,λk a=>((h.r k a).fr f (h.tr k a) (e k)).2⟩
structure jG where
 cb:Nat
 uv:ah
 ug:Option Nat
 pv:ah
 pg:Option Nat
 cs:List Et
 lp:Nat
 sp:Nat
 sa:Nat
 sb:Nat
 tp:Nat
 tg:Option Nat
 qb:Nat
 qs:List jd
 dv:ah
 dg:Option Nat
 ts:List lN
def jG.cells(m:jG)(c:aV)(now:Int):List ah:=[(),m.uv,an ar c.workers,an ar c.copies,an ar c.slots,an ar c.batch,an ar c.aS,an ar c.dY,an ar c.first,an ar c.cap,an ar c.b_,an ar c.net,m.pv,an ar now,
 m.lp,m.sp,m.tp,.map (some m.qb),m.dv]
structure cJ(c:aV)(τ:cj)(w:ae)(m:jG)(x:cB):Prop where
 bx:w.heap[m.cb]? =some (aB (m.cells c x.now).toArray 111 (0,0))
 u:CuT τ w m.ug m.uv c.cuts
 p:CpT τ w m.pg m.pv m.cs
 pc:m.cs.map Et.xs=(List.range (aZ c).toNat).map λs:Nat=>bR c (s:Int)
 l:LsT τ w m.lp c.workers c.aS x.L
 s:SlT τ w m.sp m.sa m.sb x.who x.last
 i:TiT τ w m.tp m.tg x.T x.tn
 q:QsT τ w m.qb m.qs
 qv:m.qs.map jd.y=x.qs
 d:Q5 τ w m.dg m.dv m.ts
 dv:m.ts.map lN.t=x.told
 t:τ m.cb=.co
def cJ.fr{c:aV}{m:jG}{x:cB}(h:cJ c τ w m x)(f:Fr P τ br w w')(a:∀t,dB t->¬P t)(b:¬P .keep):cJ c br w' m x:=
 ⟨f.at h.bx (by rw[h.t];exact a _ (.inl rfl)),h.u.fr f b,h.p.fr f b,h.pc,h.l.fr f (a _ (.inr (.inl rfl))),h.s.fr f (a _ (.inr (.inr (.inl rfl)))),h.i.fr f (a _ (.inr (.inr (.inr (.inl rfl))))),
  h.q.fr f (a _ (.inr (.inr (.inr (.inr (.inl rfl)))))) (λi=>a _ (.inr (.inr (.inr (.inr (.inr (.inl ⟨i,rfl⟩))))))) (λi=>a _ (.inr (.inr (.inr (.inr (.inr (.inr (.inl ⟨i,rfl⟩)))))))),h.qv,
  h.d.fr f (a _ (.inr (.inr (.inr (.inr (.inr (.inr (.inr (.inl rfl)))))))))
   (λk=>a _ (.inr (.inr (.inr (.inr (.inr (.inr (.inr (.inr ⟨k,rfl⟩))))))))),h.dv,(f.old _ (az h.bx)).trans h.t⟩
def lO:¬dB .keep:=by simp[dB]
def jG.Ct(m:jG)(g:Option Nat):jG:=⟨m.cb,m.uv,m.ug,m.pv,m.pg,m.cs,m.lp,m.sp,m.sa,m.sb,m.tp,g,m.qb,m.qs,m.dv,m.dg,m.ts⟩
def jG.vC(m:jG)(qs:List jd):jG:=⟨m.cb,m.uv,m.ug,m.pv,m.pg,m.cs,m.lp,m.sp,m.sa,m.sb,m.tp,m.tg,m.qb,qs,m.dv,m.dg,m.ts⟩
def jG.UL(m:jG)(dv:ah)(dg:Option Nat)(ts:List lN):jG:=⟨m.cb,m.uv,m.ug,m.pv,m.pg,m.cs,m.lp,m.sp,m.sa,m.sb,m.tp,m.tg,m.qb,m.qs,dv,dg,ts⟩
def cB.Nk(x:cB)(L:List qF):cB:=⟨x.now,L,x.who,x.last,x.T,x.tn,x.qs,x.told⟩
def cB.Zt(x:cB)(who:List Int)(last:Int):cB:=⟨x.now,x.L,who,last,x.T,x.tn,x.qs,x.told⟩
def cB.Ct(x:cB)(T:Int->Option Int)(n:Nat):cB:=⟨x.now,x.L,x.who,x.last,T,n,x.qs,x.told⟩
def cB.vC(x:cB)(qs:List ej):cB:=⟨x.now,x.L,x.who,x.last,x.T,x.tn,qs,x.told⟩
def cB.UL(x:cB)(ts:List bZ):cB:=⟨x.now,x.L,x.who,x.last,x.T,x.tn,x.qs,ts⟩
def cB.tick(x:cB)(n:Int):cB:=⟨n,x.L,x.who,x.last,x.T,x.tn,x.qs,x.told⟩
variable{m:jG}
def cJ.same(h:cJ c τ w m x){y:ae}(a:ai w w y)(t:Tg):cJ c (eP τ w t) y m x/\Fr dB τ (eP τ w t) w y:=
 ⟨h.fr (P:=λ_=>False) (Fr.of_below a _ _ _) (λ_ _ h=>h) (λh=>h),Fr.of_below a _ _ _⟩
def cJ.fu(h:cJ c τ w m x){y:ae}(a:ai w w y):cJ c τ y m x:=h.fr (P:=λ_=>False) (Fr.eS a _ _) (λ_ _ h=>h) (λh=>h)
def cJ.bd(h:cJ c τ w m x):m.cb<w.heap.size:=az h.bx
def cJ.tick(h:cJ c τ w m x)(n:Int):cJ c τ (w.setCell ⟨m.cb,13,none⟩ (n:Int)) m (x.tick n)/\Fr dB τ τ w (w.setCell ⟨m.cb,13,none⟩ (n:Int)):=by
 have b:aQ [m.cb] w (w.setCell ⟨m.cb,13,none⟩ (n:Int)):=(aQ.refl _ _).setCell _ (by simp) _;have a:Fr (·=.co) τ τ w (w.setCell ⟨m.cb,13,none⟩ (n:Int)):=Fr.fm b (by simpa using h.t);exact⟨⟨by simpa[jG.cells,cB.tick]using aE (i:=13) h.bx (n:Int),h.u.fr a (by simp),h.p.fr a (by simp),h.pc,h.l.fr a (by simp),h.s.fr a (by simp),h.i.fr a (by simp),h.q.fr a (by simp) (by simp) (by simp),h.qv,h.d.fr a (by simp) (by simp),h.dv,h.t⟩,a.mono λt e=>.inl e⟩
def cJ.Nk(h:cJ c τ w m x){L:List qF}(f:dH w' m.lp c.workers c.aS L)(g:aQ [m.lp] w w')(t:Tg):cJ c (eP τ w t) w' m (x.Nk L)/\Fr dB τ (eP τ w t) w w':=by
 have b:Fr (·=.aS) τ (eP τ w t) w w':=Fr.dC g (by simpa using h.l.t) t;exact⟨⟨b.at h.bx (by rw[h.t];simp),h.u.fr b (by simp),h.p.fr b (by simp),h.pc,⟨f,(b.old _ (az h.l.a.c)).trans h.l.t⟩,h.s.fr b (by simp),h.i.fr b (by simp),h.q.fr b (by simp) (by simp) (by simp),h.qv,h.d.fr b (by simp) (by simp),h.dv,(b.old _ h.bd).trans h.t⟩,b.mono λt e=>.inr (.inl e)⟩
def cJ.Zt(h:cJ c τ w m x){f:List Int}{b:Int}(g:eB w' m.sp m.sa m.sb f b)(j:aQ [m.sp,m.sa,m.sb] w w')(t:Tg):cJ c (eP τ w t) w' m (x.Zt f b)/\Fr dB τ (eP τ w t) w w':=by
 have a:Fr (·=.slot) τ (eP τ w t) w w':=Fr.dC j (by simpa using⟨h.s.tp,h.s.ta,h.s.tb⟩) t;exact⟨⟨a.at h.bx (by rw[h.t];simp),h.u.fr a (by simp),h.p.fr a (by simp),h.pc,h.l.fr a (by simp),⟨g,(a.old _ (az h.s.at'.1)).trans h.s.tp,(a.old _ h.s.at'.2.1.lt).trans h.s.ta,(a.old _ h.s.at'.2.2.1.lt).trans h.s.tb⟩,h.i.fr a (by simp),h.q.fr a (by simp) (by simp) (by simp),h.qv,h.d.fr a (by simp) (by simp),h.dv,(a.old _ h.bd).trans h.t⟩,a.mono λt e=>.inr (.inr (.inl e))⟩
def cJ.time(h:cJ c τ w m x){T:Int->Option Int}{n:Nat}(k:oF w m.tp 24 m.tg T n w'):∃g',cJ c (eP τ w .timer) w' (m.Ct g') (x.Ct T n)/\Fr dB τ (eP τ w .timer) w w':=by
 obtain⟨⟨g',o,r⟩,v⟩:=k;have f:Fr (·=.timer) τ (eP τ w .timer) w w':=Fr.dC v h.i.t _;refine⟨g',⟨f.at h.bx (by show¬τ m.cb=_;rw[h.t];simp),h.u.fr f (by simp),h.p.fr f (by simp),h.pc,h.l.fr f (by simp),h.s.fr f (by simp),⟨o,λb g=> ?_⟩,h.q.fr f (by simp) (by simp) (by simp),h.qv,h.d.fr f (by simp) (by simp),h.dv,(f.old _ h.bd).trans h.t⟩,f.mono λt e=>.inr (.inr (.inr (.inl e)))⟩;obtain rfl|⟨y,rfl,j⟩:=r
 .exact f.tags h.i.a.lt h.i.t b g
 .obtain rfl|g:=List.mem_cons.1 g
  .exact f.tags h.i.a.lt h.i.t _ (by simp[jG.Ct])
  .rw[show b=y by simpa[jG.Ct]using g]
   exact d_ j
def aaY{f:List jd}(g:(f.map λm=>m.y.id).Nodup){m:jd}(d:m∈f):ur f m.y.id=some m.b:=by
 unfold ur
 induction f with
 |nil=>simp at d
 |cons a l h=>
  rw[gi,ji]at g;obtain rfl|d:=List.mem_cons.1 d
  .simp
  .have:a.y.id≠m.y.id:=λe=>g.1 (e▸List.mem_map.2 ⟨m,d,rfl⟩)
   rw[jg (by simpa using this)];exact h g.2 d
def UM(b:List jd)(id:Int):(b.map jd.y).find? (·.id==id)=(b.find? (·.y.id==id)).map jd.y:=by
 induction b with
 |nil=>rfl
 |cons a l d=>
  rw[gi];by_cases e:a.y.id=id
  .rw[List.find?_cons_of_pos (by simpa using e),List.find?_cons_of_pos (by simpa using e)]
   rfl
  .rw[jg (by simpa using e),jg (by simpa using e)]
   exact d
def cJ.find(h:cJ c τ w m x)(id:Int):(x.q id=none/\ur m.qs id=none)∨∃k∈m.qs,k.y.id=id/\x.q id=some k.y/\ur m.qs id=some k.b:=by
 have a:x.q id=(m.qs.find? (·.y.id==id)).map jd.y:=by unfold cB.q;rw[<-h.qv,UM]
 cases hf:m.qs.find? (·.y.id==id)with
 |none=>
  rw[hf]at a;exact .inl ⟨a,by unfold ur;rw[hf];rfl⟩
 |some k=>
  rw[hf]at a;have d:k.y.id=id:=by simpa using List.find?_some hf
  exact .inr ⟨k,List.mem_of_find?_eq_some hf,d,a,by unfold ur;rw[hf];rfl⟩
def pj(qs:List jd)(k:jd):List jd:=qs.map λz=>if z.y.id=k.y.id then k else z
def aaZ(a:List jd)(k:jd):(pj a k).map jd.y=nO (a.map jd.y) k.y:=by
 unfold pj nO;rw[fT,fT];refine jh λz _=> ?_
 simp only[Function.comp_apply];split<;>rfl
def X5(a:List jd)(k:jd):(pj a k).map (λm=>m.y.id)=a.map λm=>m.y.id:=by
 unfold pj;rw[fT];refine jh λz _=> ?_
 simp only[Function.comp_apply];split
 .rename_i e;exact e.symm
 .rfl
def aa0{g:List jd}(i:(g.map λm=>m.y.id).Nodup){f k:jd}(n:f∈g)(o:k.y.id=f.y.id)(p:k.b=f.b):ur (pj g k)=ur g:=by
 funext id;unfold ur pj
 induction g with
 |nil=>rfl
 |cons a l q=>
  rw[gi]at i⊢;rw[ji]at i;by_cases e:a.y.id=k.y.id
  .have r:a=f:=by
    obtain h|h:=List.mem_cons.1 n
    .exact h.symm
    .exact(i.1 (List.mem_map.2 ⟨f,h,by rw[<-o,e]⟩)).elim
   have s:l.map (λz=>if z.y.id=k.y.id then k else z)=l:=by
    have:∀z∈l,(if z.y.id=k.y.id then k else z)=z:=λz t=>by
     rw[aC];intro u;exact i.1 (List.mem_map.2 ⟨z,t,by rw[u,e]⟩)
    rw[jh this,List.map_id']
   rw[aI e,s];by_cases d:a.y.id=id
   .rw[List.find?_cons_of_pos (by rw[<-e,d];simp),List.find?_cons_of_pos (by simpa using d)]
    simp[p,r]
   .rw[jg (by rw[<-e];simpa using d),jg (by simpa using d)]
  .rw[aC e]
   have j:f∈l:=by
    obtain h|h:=List.mem_cons.1 n
    .exact(e (by rw[<-h,o])).elim
    .exact h
   by_cases d:a.y.id=id
   .rw[List.find?_cons_of_pos (by simpa using d),List.find?_cons_of_pos (by simpa using d)]
   .rw[jg (by simpa using d),jg (by simpa using d)]
    exact q i.2 j
def cJ.aa1(h:cJ c τ w m x){g k:jd}(n:g∈m.qs)(o:k.y.id=g.y.id)(v:k.b=g.b)(a:Fr (λt=>t=.FP k.y.id∨t=.mg k.y.id) τ br w w')(A:ph br w' k):cJ c br w' (m.vC (pj m.qs k)) (x.put k.y)/\Fr dB τ br w w':=by
 refine⟨⟨a.at h.bx (by show¬(τ m.cb=_∨τ m.cb=_);rw[h.t];simp),h.u.fr a (by simp),h.p.fr a (by simp),h.pc,h.l.fr a (by simp),h.s.fr a (by simp),h.i.fr a (by simp),⟨?_,λz B=> ?_,?_,?_⟩,?_,h.d.fr a (by simp) (by simp),h.dv,(a.old _ h.bd).trans h.t⟩,a.mono λt e=> ?_⟩
 .have C:(pj m.qs k).length=m.qs.length:=by simp[pj]
  show je _ w' m.qb (ur (pj m.qs k)) (pj m.qs k).length
  rw[aa0 h.q.nd n o v,C];exact h.q.m.same (a.block _ h.q.m.lt (by rw[h.q.t];simp))
 .have⟨E,j,e⟩:=List.mem_map.1 (show z∈pj m.qs k from B)
  split at e
  .subst e;exact A
  .subst e
   rename_i f;exact(h.q.r E j).fr a (by simpa using f) (by simpa using f)
 .show((pj m.qs k).map λm=>m.y.id).Nodup
  rw[X5];exact h.q.nd
 .exact(a.old _ h.q.m.lt).trans h.q.t
 .show(pj m.qs k).map jd.y=nO x.qs k.y
  rw[aaZ,h.qv]
 .obtain rfl|rfl:=e
  .exact .inr (.inr (.inr (.inr (.inr (.inl ⟨_,rfl⟩)))))
  .exact .inr (.inr (.inr (.inr (.inr (.inr (.inl ⟨_,rfl⟩))))))
def uu{b:Type}{f:b->List ah}{sz:Nat}(d:∀x,(f x).length=sz):∀(l:List b) (k j:Nat) (m:b) (u:ah) (g:k<l.length),j<sz->f m=(f l[k]).set j u->(l.set k m).flatMap f=(l.flatMap f).set (k*sz+j) u
 |a::l,0,j,m,u,g,i,h=>by
  have n:f m=(f a).set j u:=h;rw[cC,eI,eI,Nat.zero_mul,eJ,n,List.set_append_left _ _ (by rw[d];exact i)]
 |a::l,k+1,j,m,u,g,i,h=>by
  have o:k<l.length:=by simpa using g
  have n:f m=(f l[k]).set j u:=by simpa using h
  rw[ct,eI,eI,uu d l k j m u o i n];have e:(k+1)*sz+j=(f a).length+(k*sz+j):=by rw[d,Nat.succ_mul];omega
  rw[e,List.set_append_right _ _ (by omega)];congr 2;omega
def Seg.CE{w:ae}{e sz g a d n q:Nat}{cs:List ah}(h:Seg w e sz (some g) (av (some ⟨g,a,none⟩) n d) cs n)(z:q<n*sz)(u:ah):
 Seg (w.setCell ⟨g,a+q,none⟩ u) e sz (some g) (av (some ⟨g,a,none⟩) n d) (cs.set q u) n:=by
 obtain⟨o,⟨p,_⟩|⟨b,f,i,r,k,l,s,m,t,v,x⟩⟩:=h
 .cases p
 .simp only[bA]at k
  subst k;simp only[bG,bA,dr,et,bK]at l;obtain⟨rfl,rfl⟩:=l;have A:n*sz<=d*sz:=Nat.mul_le_mul_right _ m;refine⟨by rw[ds];exact o,.inr ⟨g,a,d,_,rfl,rfl,aE s _,m,t,by simpa using v,λj y=> ?_⟩⟩;rw[pB,iW];by_cases e:q=j
  .subst e
   rw[aI rfl,aI rfl,aI (by omega),aI (by omega)]
  .rw[aC (by omega),aC e]
   exact x j y
def Q5.put{l:Option Nat}{n:ah}{d:List lN}(h:Q5 τ w l n d){k:Nat}(x:k<d.length){tb a o:Nat}(y:l=some tb)(z:n=av (some ⟨tb,a,none⟩) d.length o){j:Nat}(A:j<7){u:ah}{m:lN}(B:m.cells=(d[k]).cells.set j u)
 (C:Seg (w.setCell ⟨tb,a+(k*7+j),none⟩ u) 83 2 m.ig m.iv (dT m.t.items) m.t.items.length) (E:∀b,m.ig=some b->τ b=.item k):
 Q5 τ (w.setCell ⟨tb,a+(k*7+j),none⟩ u) l n (d.set k m)/\Fr (·=.told) τ τ w (w.setCell ⟨tb,a+(k*7+j),none⟩ u):=by
 subst y;subst z;have F:k*7+j<d.length*7:=by omega
 have q:=h.s.CE F u;have v:Fr (·=.told) τ τ w (w.setCell ⟨tb,a+(k*7+j),none⟩ u):=Fr.fm ((aQ.refl [tb] w).setCell _ (by simp) _) (by simpa using h.t tb rfl);rw[<-uu (f:=lN.cells) (λ_=>rfl) d k j m u x A B]at q;refine⟨⟨by simpa using q,λi p=> ?_,h.t,λi p=> ?_⟩,v⟩
 .have g:i<d.length:=by simpa using p
  rw[List.getElem_set];by_cases e:k=i
  .subst e
   rw[aI rfl];exact C
  .rw[aC e]
   exact((h.r i g).fr v (h.tr i g) (by simp)).1
 .have g:i<d.length:=by simpa using p
  rw[List.getElem_set];by_cases e:k=i
  .subst e
   rw[aI rfl];exact E
  .rw[aC e]
   exact h.tr i g
def cJ.tell{m:jG}{x:cB}(h:cJ c τ w m x){d:Option Nat}{b:List lN}(f:Q5 br w' d m.dv b)(a:Fr (λt=>t=.told∨∃k,t=.item k) τ br w w'):cJ c br w' (m.UL m.dv d b) (x.UL (b.map lN.t))/\Fr dB τ br w w':=by
 refine⟨⟨a.at h.bx (by show¬(τ m.cb=_∨∃k,τ m.cb=_);rw[h.t];simp),h.u.fr a (by simp),h.p.fr a (by simp),h.pc,h.l.fr a (by simp),h.s.fr a (by simp),h.i.fr a (by simp),h.q.fr a (by simp) (by simp) (by simp),h.qv,f,rfl,(a.old _ h.bd).trans h.t⟩,a.mono λt e=> ?_⟩;obtain rfl|⟨k,rfl⟩:=e
 .exact .inr (.inr (.inr (.inr (.inr (.inr (.inr (.inl rfl)))))))
 .exact .inr (.inr (.inr (.inr (.inr (.inr (.inr (.inr ⟨k,rfl⟩)))))))
def Nl(f:List jd)(id:Int):ur (f.filter λz=>z.y.id !=id)=λi=>if i=id then none else ur f i:=by
 funext i;unfold ur
 induction f with
 |nil=>simp
 |cons a l g=>
  by_cases e:a.y.id=id
  .rw[List.filter_cons_of_neg (by simp[e]),g]
   by_cases b:i=id
   .rw[aI b,aI b]
   .rw[aC b,aC b,jg (by simp only[beq_iff_eq];omega)]
  .rw[List.filter_cons_of_pos (by simpa using e)]
   by_cases d:a.y.id=i
   .rw[List.find?_cons_of_pos (by simpa using d),aC (by omega),List.find?_cons_of_pos (by simpa using d)]
   .rw[jg (by simpa using d),jg (by simpa using d)]
    exact g
def Nn{d:List jd}(f:(d.map λm=>m.y.id).Nodup){k:jd}(b:k∈d):(d.filter λz=>z.y.id !=k.y.id).length=d.length-1:=by
 induction d with
 |nil=>simp at b
 |cons a l h=>
  rw[gi,ji]at f;obtain rfl|b:=List.mem_cons.1 b
  .rw[List.filter_cons_of_neg (by simp)]
   have:l.filter (λz=>z.y.id !=k.y.id)=l:=List.filter_eq_self.2 λz i=>by
    simp only[bne_iff_ne,ne_eq];exactλe=>f.1 (e▸List.mem_map.2 ⟨z,i,rfl⟩)
   rw[this];simp
  .have g:a.y.id≠k.y.id:=λe=>f.1 (e▸List.mem_map.2 ⟨k,b,rfl⟩)
   rw[List.filter_cons_of_pos (by simpa using g),cG,h f.2 b,cG];have:0<l.length:=List.length_pos_of_mem b;omega
def UN(b:List jd)(id:Int):(b.filter λz=>z.y.id !=id).map jd.y=(b.map jd.y).filter λz=>z.id !=id:=by
 induction b with
 |nil=>rfl
 |cons a l d=>
  by_cases e:a.y.id=id
  .rw[List.filter_cons_of_neg (by simp[e]),gi,List.filter_cons_of_neg (by simp[e])]
   exact d
  .rw[List.filter_cons_of_pos (by simpa using e),gi,gi,List.filter_cons_of_pos (by simpa using e),d]
def cJ.ajl{m:jG}{x:cB}(h:cJ c τ w m x){k:jd}(b:k∈m.qs){id:Int}(hid:id=k.y.id)(f:je (aL none) w' m.qb (λi=>if i=id then none else ur m.qs i) (m.qs.length-1))(g:aQ [m.qb] w w')(t:Tg):
 cJ c (eP τ w t) w' (m.vC (m.qs.filter λz=>z.y.id !=id)) (x.vC (x.qs.filter λz=>z.id !=id))/\Fr dB τ (eP τ w t) w w':=by
 subst hid;have a:Fr (·=.FO) τ (eP τ w t) w w':=Fr.dC g (by simpa using h.q.t) t;refine⟨⟨a.at h.bx (by show¬τ m.cb=_;rw[h.t];simp),h.u.fr a (by simp),h.p.fr a (by simp),h.pc,h.l.fr a (by simp),h.s.fr a (by simp),h.i.fr a (by simp),⟨?_,λz j=> ?_,?_,(a.old _ h.q.m.lt).trans h.q.t⟩,?_,h.d.fr a (by simp) (by simp),h.dv,(a.old _ h.bd).trans h.t⟩,a.mono λt e=> ?_⟩
 .show je _ w' m.qb (ur (m.qs.filter _)) (m.qs.filter _).length
  rw[Nl,Nn h.q.nd b];exact f
 .exact(h.q.r z (List.mem_filter.1 j).1).fr a (by simp) (by simp)
 .exact((List.filter_sublist (l:=m.qs) (p:=λz=>z.y.id !=k.y.id)).map λm=>m.y.id).nodup h.q.nd
 .show(m.qs.filter _).map jd.y=_
  rw[UN,h.qv];rfl
 .rw[e];exact .inr (.inr (.inr (.inr (.inl rfl))))
def I2(c:aV)(cb:Nat)(x:cB)(τ:cj)(w w':ae):Prop:=∃br m,cJ c br w' m x/\m.cb=cb/\Fr dB τ br w w'
def pS(c:aV)(cb:Nat)(r:cB×List fF)(τ:cj)(w:ae)(e:ak)(w':ae):Prop:=∃v,e=ax v/\eH w w' v r.2/\I2 c cb r.1 τ w w'
def nR(slot s:Int)(w:ae)(a:0<=slot)(b:slot<=100)(d:0<=s)(f:s<=100):aj prog 125 #[slot,s] w λe w'=>e=ax (bY slot s:Int)/\w=w':=by
 unfold bY;go_in;go_wp2;go_ret;exact⟨rfl,rfl⟩
def jR(x:cB)(slot:Int)(k:Nat):(Int->Option Int)×Nat:=(List.range k).foldl (λt (s:Nat)=>dE t (bY slot (s:Int))) (x.T,x.tn)
def CQ(x:cB)(slot:Int)(k:Nat):jR x slot (k+1)=dE (jR x slot k) (bY slot (k:Int)):=by
 unfold jR;rw[List.range_succ,List.foldl_append];rfl
def ajm(c:aV)(m:jG)(x:cB)(slot:Int)(τ:cj)(w:ae)(k:Nat)(wr:ae):Prop:=
 ∃br g,cJ c br wr (m.Ct g) (x.Ct (jR x slot k).1 (jR x slot k).2)/\Fr dB τ br w wr
def ph.cells'{k:jd}(h:ph τ w k):w.cell? k.b=k.y.id/\w.cell? ⟨k.b,1,none⟩=k.y.slot/\w.cell? ⟨k.b,2,none⟩=some (aA k.y.text)/\w.cell? ⟨k.b,3,none⟩=k.y.k/\w.cell? ⟨k.b,4,none⟩=(k.y.n:Int)/\w.cell? ⟨k.b,5,none⟩=k.p/\k.b<w.heap.size:=by
 have a:=h.c;refine⟨?_,?_,?_,?_,?_,?_,az a⟩<;>simp[World.cell?,a,jd.cells]
structure F6(c:aV)(w:ae)(m:jG)(now:Int):Prop where
 c2:w.cell? ⟨m.cb,2,none⟩=c.workers
 c4:w.cell? ⟨m.cb,4,none⟩=c.slots
 c5:w.cell? ⟨m.cb,5,none⟩=c.batch
 c7:w.cell? ⟨m.cb,7,none⟩=c.dY
 c12:w.cell? ⟨m.cb,12,none⟩=m.pv
 c13:w.cell? ⟨m.cb,13,none⟩=(now:Int)
 c14:w.cell? ⟨m.cb,14,none⟩=m.lp
 c15:w.cell? ⟨m.cb,15,none⟩=m.sp
 c16:w.cell? ⟨m.cb,16,none⟩=m.tp
 c17:w.cell? ⟨m.cb,17,none⟩=some (.map (some m.qb))
 c18:w.cell? ⟨m.cb,18,none⟩=m.dv
 lt:m.cb<w.heap.size
def cJ.cells{m:jG}{x:cB}(h:cJ c τ w m x):F6 c w m x.now:=by
 have a:=h.bx;refine⟨?_,?_,?_,?_,?_,?_,?_,?_,?_,?_,?_,az a⟩<;>simp[World.cell?,a,jG.cells]
def cJ.copies{m:jG}{x:cB}(h:cJ c τ w m x):m.cs.length=(aZ c).toNat:=by
 have:=congrArg List.length h.pc;simpa using this
def F7(w:ae):(zeroValue 179).run prog w=.ok (aL none) w:=by kernel_rfl
def Zu{m:jG}{x:cB}(h:cJ c τ w m x){k:jd}(hk:k∈m.qs)(hs:0<=k.y.slot/\k.y.slot<=3)(hi:0<=k.y.id/\k.y.id<=1000000000)(h6:(aZ c).toNat<=6)(h5:1<=c.workers/\c.workers<=5):
 aj prog 97 #[m.cb,k.b] w (pS c m.cb (js c x k.y) τ w):=by
 have⟨IN,E⟩:= @aD (Nat->ae->Prop) (ajm c m x k.y.slot τ w);have⟨Eu,HST⟩:=aK E (show IN 0 w by rw[E];exact⟨τ,m.tg,h,Fr.refl _ _ _⟩);have qH:=au (show∀j wr,IN j wr->F6 c wr m x.now/\wr.cell? k.b=k.y.id/\wr.cell? ⟨k.b,1,none⟩=k.y.slot/\k.b<wr.heap.size fromλj wr O=>by
  rw[E]at O;obtain⟨br,g,h1,K⟩:=O;have⟨q0,q1,_,_,_,_,q6⟩:=(h1.q.r k hk).cells';have e:=h1.cells;exact⟨⟨e.c2,e.c4,e.c5,e.c7,e.c12,e.c13,e.c14,e.c15,e.c16,e.c17,e.c18,e.lt⟩,q0,q1,q6⟩)
 have HCA:=au (show∀j wr id,IN j wr->id=bY k.y.slot (j:Int)->∃b,aj prog 124 #[m.tp,an ar id] wr.drew λe w'=>e=ax (aw b)/\IN (j+1) w' fromλj wr id O e=>by
  rw[E]at O⊢;subst e;obtain⟨br,g,h1,K⟩:=O;have A:=h1.fu (y:=wr.drew) ((aO _ _).drew);refine⟨((jR x k.y.slot j).1 (bY k.y.slot (j:Int))).isSome,(Az A.i.a (bY k.y.slot (j:Int))).mono ?_⟩;rintro e w' ⟨rfl,hr⟩;refine⟨rfl,?_⟩;have⟨g',k1,k2⟩:=A.time hr;refine⟨_,g',?_,K.trans ((Fr.eS ((aO wr wr).drew) dB br).trans k2)⟩;rw[CQ];exact k1)
 have HTI:=au (λ(j:Nat) (y:ae) (O:j<(aZ c).toNat)=>nR k.y.slot (j:Int) y hs.1 (by omega) (by omega) (by omega));have hc:=h.cells;have⟨pa,UO,hpv,_⟩:=h.p.s.len;have hcl:=h.copies;generalize hN:(aZ c).toNat=N at*;have c12:=hc.c12;rw[hpv,hcl]at c12;generalize hSL:k.y.slot=slot at*;generalize hID:k.y.id=id at*;generalize hQ:pS c m.cb (js c x k.y) τ w=Q at*;generalize G:m.cb=cb at*;generalize hKB:k.b=kb at*;have H:=au h;go_in;go_wp2_with fail
 go_loopw [13] (λi wr=>∃j:Nat,i=an ar j/\j<=N/\IN j wr) (λi _=>N-(intOf i).toNat)
 case atStart=>exact⟨0,rfl,bz _,HST.o⟩
 case round=>
  obtain⟨j,rfl,O,I⟩:=hrel;have⟨d,q0,q1,qlt⟩:=qH.o j wr I;by_cases hlt:j<N
  .have e16:=d.c16
   have T:=d.lt;rw[G]at e16 T;have⟨b,ajo⟩:=HCA.o j wr _ I rfl;have⟨ajp,X6,Zm⟩:=aX ajo (λy=>HTI.o j y hlt) (λw' hw=>qH.o (j+1) w' hw);generalize bY slot (j:Int)=tm at*;have z2':(j:Int)<(N:Int):=by omega
   have⟨K0,f⟩:=aK (show wr.drew.cell? ⟨cb,16,none⟩=m.tp/\wr.drew.cell? ⟨kb,1,none⟩=slot from⟨e16,q1⟩) G;go_wp2_with fail
   go_region_held3 (λw'=>w'.cell? ⟨cb,16,none⟩=m.tp/\w'.cell? ⟨kb,1,none⟩=slot) (first|(with_reducible exact K0.o)|(with_reducible exact K1.o)) (first
    |(go_at_call 125;(with_reducible refine aH (X6.o _) ?_))
    |(go_at_call 124;(with_reducible refine aN ajp.o ?_);rintro z hz;have HZ:=au hz;have K1:=au (show z.cell? ⟨cb,16,none⟩=m.tp/\z.cell? ⟨kb,1,none⟩=slot from⟨by have:=(Zm.o z hz).1.c16;rw[f.o]at this;exact this,(Zm.o z hz).2.2.1⟩);clear hz))
   go_wp2_with fail
   go_roundw
   case rel=>exact⟨j+1,by simp,by omega,HZ.o⟩
   case measure=>simp[intOf];omega
  .obtain rfl:j=N:=by omega
   rw[Eu.o]at I;obtain⟨τ1,g1,h1,f1⟩:=I;have e15:=d.c15;have e17:=d.c17;have e2:=d.c2;have T:=d.lt;rw[G]at e15 e17 T e2;have A:=h1.fu (y:=wr.drew) ((aO _ _).drew);have f1d:=f1.trans (Fr.eS ((aO wr wr).drew) dB τ1);have HFR:=au (adf A.s.at' id (eN (by omega) (by omega)));have HPS:=au (show∀y,eB y m.sp m.sa m.sb (qR x.who id) x.last->aQ [m.sp,m.sa,m.sb] wr.drew y->∃B,cJ c B y (m.Ct g1) ((x.Ct (jR x slot j).1 (jR x slot j).2).Zt (qR x.who id) x.last)/\Fr dB τ B w y fromλy k1 k2=>by
    have⟨k3,k4⟩:=A.Zt k1 k2 .keep;exact⟨_,k3,f1d.trans k4⟩)
   have⟨K0,HQN,f,J,U,C⟩:=eC (show wr.drew.cell? ⟨cb,15,none⟩=m.sp from e15) hQ G hKB hSL hID;go_upto_region 6 with fail
   go_still_tail 8,(by kernel_rfl)
   go_wp2_with fail
   refine aN HFR.o ?_;rintro L ⟨s2,g2⟩;have⟨B,K,f2⟩:=HPS.o L s2 g2;have h2d:=K.fu (y:=L.drew) ((aO _ _).drew);have⟨u,r3,m3,g3⟩:=h2d.q.m.drop (t:=109) underlying109 (x:=id) (eN (by omega) (by omega));have r4:∀ty,(Builtin.delete_ #[109,3] ty #[.map (some m.qb),an ar id]).run prog L.drew=.ok (aM #[]) u:=r3
   have V:(ur m.qs id).isSome=true:=by
    rw[<-C.o,aaY H.o.q.nd hk];rfl
   have m3':je (aL none) u m.qb (λi=>if i=id then none else ur m.qs i) (m.qs.length-1):=by
    have hs':(ur (m.Ct g1).qs id).isSome=true:=V;rw[hs']at m3;exact m3
   have⟨h3,f3⟩:=h2d.ajl hk (id:=id) C.o.symm m3' g3 .keep;have c2c:=K.cells;have e17:L.cell? ⟨cb,17,none⟩=some (.map (some m.qb)):=by rw[<-f.o];exact c2c.c17
   have⟨q0',q1',_,_,_,_,q6⟩:=(K.q.r k hk).cells';rw[J.o,C.o]at q0';rw[J.o]at q6;have hb3:u.heap[kb]? =L.heap[kb]? :=g3.block kb q6 (by
    simp only[cm];intro e;have t1:=(K.q.r k hk).t;have t2:=K.q.t;rw[J.o,e]at t1;have t2:B m.qb=.FO:=t2;exact bL (t1.symm.trans t2) (by simp))
   have HX:=au (show∀y,ai u u y->y.cell? kb=some (an ar id)/\y.cell? ⟨kb,1,none⟩=slot/\kb<y/\cb<y fromλy hy=>by
    rw[J.o,U.o]at q1';have X:=bP q6 g3.size;have hc3:cb<u:=by rw[<-f.o];exact h3.cells.lt
    refine⟨(hy.cell (p:=⟨kb,0,none⟩) X).trans ((cU hb3).trans q0'),(hy.cell (p:=⟨kb,1,none⟩) X).trans ((cU hb3).trans q1'),bP X hy.size,bP hc3 hy.size⟩)
   have e32:u.cell? ⟨cb,2,none⟩=c.workers:=by rw[<-f.o];exact h3.cells.c2
   obtain⟨W,hW⟩:∃W:Nat,(W:Int)=c.workers:=⟨c.workers.toNat,by omega⟩
   have⟨F,hF⟩:= @aD (Nat->List fF) (λn=>(List.range n).map λw:Nat=>(⟨(w:Int)+1,.stop slot id⟩:fF));have⟨TI,Y⟩:=aK (show∀n,F (n+1)=F n++ [⟨(n:Int)+1,.stop slot id⟩]fromλn=>by rw[hF];simp[List.range_succ]) (show∀n,(F n).length=n fromλn=>by rw[hF];simp);have HFP:=au (show∀n,∀l∈F n,∀r,l.m≠.dj r fromλn l Z r=>by
    rw[hF]at Z;obtain⟨q,_,rfl⟩:=List.mem_map.1 Z;simp)
   have MO:=au (show F 0=[]by rw[hF];rfl);have ke:=au (show∀v y,eH u y v (F W)->ai u u y->Q (ax v) y fromλv y k1 k2=>by
    rw[<-HQN.o];have hws:=bD f2.size (bD (aP L) g3.size);have⟨k3,k4⟩:=h3.same k2 .keep;have hov:(js c x k.y).1=(((x.Ct (jR x slot j).1 (jR x slot j).2).Zt (qR x.who id) x.last).vC (x.qs.filter λz=>z.id !=id)):=by
     unfold js cB.cancels;rw[U.o,C.o,hN];rfl
    refine⟨v,rfl,?_,_,(m.Ct g1).vC ((m.Ct g1).qs.filter λz=>z.y.id !=id),by rw[hov];exact k3,f.o,(f2.trans ((Fr.eS ((aO L L).drew) dB B).trans f3)).trans k4⟩;have:(js c x k.y).2=F W:=by
     unfold js;rw[hF,U.o,C.o];simp only;rw[show c.workers.toNat=W by omega]
    rw[this];exact k1.mono hws)
   rw[<-hW]at e32;go_upto_region 7 with fail
   go_still_tail 8,(by kernel_rfl)
   go_wp2_with fail
   go_loopw [6,50] (λv i wc=>∃n:Nat,i=an ar n/\n<=W/\eH u wc v (F n)/\ai u u wc) (λ_ i _=>W-(intOf i).toNat)
   case atStart=>exact⟨0,rfl,bz _,by rw[MO.o];exact eH.nil _ _,aO _ _⟩
   case round=>
    obtain⟨n,rfl,hn,Z,hb⟩:=hrel;have⟨x0,x1,xl,yl⟩:=HX.o wr hb;by_cases hlt2:n<W
    .have⟨a',k',z,M,hl',hb'⟩:=(Z.below ((aO wr wr).drew)).push (HFP.o n) ⟨(n:Int)+1,.stop slot id⟩ (by simp) trivial (by rw[Y.o];omega) hb.size
     rw[<-TI.o]at hl';rw[Y.o]at M hl';obtain⟨a0,k0,rfl,_⟩:=Z.len;rw[Y.o]at*;have⟨gN,HL,HB⟩:=aX M hl' (hb.drew.trans hb');have⟨y0,y1,_,_⟩:=HX.o z (hb.drew.trans hb');have⟨K0,K2⟩:=aK (show wr.drew.cell? kb=some (an ar id)/\wr.drew.cell? ⟨kb,1,none⟩=slot from⟨x0,x1⟩) (show z.cell? kb=some (an ar id)/\z.cell? ⟨kb,1,none⟩=slot from⟨y0,y1⟩);have s1:=IntWalk.i64_in ((n:Int)+1) (by omega);go_wp2_with fail
     go_region_held3 (λw'=>w'.cell? kb=some (an ar id)/\w'.cell? ⟨kb,1,none⟩=slot) (first|(with_reducible exact K0.o)|(with_reducible exact K2.o)|go_keep) (first
      |(refine iU (by rfl) (.tmp 53) (.tmp 67) 130 (by rfl) _ _ _ z (by rfl) (by rfl) (gN.o _) ?_)
      |fail)
     all_goals
      go_wp2_with fail
      go_roundw
      case rel=>exact⟨n+1,by simp,by omega,HL.o,HB.o⟩
      case measure=>simp[intOf];omega
    .obtain rfl:n=W:=by omega
     have HE:=au (ke.o _ _ Z hb);obtain⟨a0,k0,rfl,_⟩:=Z.len;go_wp2;exact HE.o
end Go.Proofs.YtjpnlfpompnpkaaGreat
