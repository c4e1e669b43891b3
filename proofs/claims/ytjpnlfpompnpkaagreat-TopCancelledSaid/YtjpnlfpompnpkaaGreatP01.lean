import Derived.Laws.AppendOwnNone
import Derived.Deep.RegionLaw
import Derived.Test.YtjpnlfpompnpkaaGreatP00
namespace Go.Proofs.YtjpnlfpompnpkaaGreat
open Go.RowKit Go.Proofs.Tryz
open Go.Value renaming int->an,slice->av,bool->aw,string->aA,tuple->aM,pointer->aL,agg->aG
open Go.IntKind renaming i64->ar
open Go.Ending renaming returned->ax
open Go.Obj renaming cells->aB
open Go renaming World->ae,Value->ah,Calls->aj,Ending->ak
open Go.RowKit renaming Below->ai
set_option maxRecDepth 100000
set_option linter.all false
set_option maxHeartbeats 1000000
def SY:(prog.info? 21).map (λi=>(i.zero,i.size,i.bytes))=some (some (.int .i32 0),1,4):=by kernel_rfl
def Ox:(prog.info? 3).map (λi=>(i.zero,i.size,i.bytes))=some (some (an ar 0),1,8):=by kernel_rfl
def Mp(w:ae)(a:Option Nat):w.grownBy w a:=⟨rfl,rfl,rfl,aP _,λ_ _ _=>rfl⟩
def I8{a b c:ae}{d:Option Nat}(h:a.grownBy b d)(g:b.grownBy c d):a.grownBy c d:=
 ⟨g.os.trans h.os,g.tape.trans h.tape,g.output.trans h.output,bD h.size g.size,λk f e=>(g.block k (bP f h.size) e).trans (h.block k f e)⟩
variable{w:ae}
def Mq{k:IntKind}{g:Addr}{n c:Nat}{xs:List Int}(h:dc w k (av (some g) n c) xs):∀j u,(xs.map (Value.int k))[j]? =some u->w.cell? (g.add j)=some u:=by
 intro j u a;obtain⟨q,i,l,_,_,m⟩:=h;simp only[bG]at l;obtain⟨rfl,rfl,rfl⟩:=l;rw[uP]at a;cases hx:xs[j]? with
 |none=>rw[hx]at a;cases a
 |some x=>
  rw[hx]at a;simp only[Option.map_some,bA]at a;subst a;have f:=(List.getElem?_eq_some_iff.1 hx).1;have⟨b,d,e,o,p⟩:=m j f;simp only[bA]at e;subst e;rw[show(⟨b,d,none⟩:Addr).add j=⟨b,d+j,none⟩by cases j<;>simp[Addr.add],p,aU,hx];rfl
variable{Q:Exit->Act->ae->Prop}
def xJ{P:Program}{o:Oper}{a:Act}{K:Act->ae->Prop}(s x:Operand)(t:TypeId)
 (C:o.op=.call {callee:=.builtin .append,args:= #[s,x],argTypes:= #[t,t]})
 (base:Nat) (e:TypeId) (i:TypeInfo) (z:ah) (bytes:Nat) (E:P.underlying t=some (.slice e)) (hi:P.info? e=some i) (I:i.zero=some z)
 (f:i.size=1) (q:i.bytes=bytes) (r:z.cells.size=1)
 (v:ah) (n:Nat) (xs:List ah) (hs:a.eval s=v) (b:w.ownsRow base e 1 v n xs)
 (k:IntKind) (F:ah) (g:List Int) (G:a.eval x=F) (H:dc w k F g)
 (y:n+g.length<=maxLen) (d:(n+g.length)*bytes<=140737488355328) (j:base<=w)
 (h:∀p l,l.ownsRow base e 1 p (n+g.length) (xs++g.map (Value.int k))->w.grownBy l v.ownBlock->K (a.put o.dst p) l):o.wp P a w K Q:=by
 have A:=H;obtain⟨B,c,rfl,hl,⟨O,J⟩,_⟩:=H;cases B with
 |none=>
  obtain rfl:=J rfl;have L:g=[]:=List.length_eq_zero_iff.1 (by omega);subst L;have m:=run_append_owned_none (P:=P) (w:=w) base t o.type e i 1 E hi v n xs b;unfold Oper.wp;simp[execOp,C,resolve,invoke,builtin,hs,G,m,Result.andThen];exact h v w (by simpa using b) (Mp _ _)
 |some B=>
  exact wp_append_own w s x t C base e i z 1 bytes E hi I f q r (by decide) v n xs hs b B _ c (g.map (Value.int k)) G (by simp) (Mq A) (by intro u M;obtain⟨z,_,rfl⟩:=List.mem_map.1 M;rfl) y d j
   (λp l h2 N _=>h p l h2 N)
def r_{P:Program}{g:Array Oper}{rest:List Oper}{o:Oper}{a:Act}(p:o.guard=none)(s x:Operand)(t:TypeId)
 (A:o.op=.call {callee:=.builtin .append,args:= #[s,x],argTypes:= #[t,t]})
 (base:Nat) (e:TypeId) (i:TypeInfo) (z:ah) (bytes:Nat) (B:P.underlying t=some (.slice e)) (hi:P.info? e=some i) (C:i.zero=some z)
 (c:i.size=1) (q:i.bytes=bytes) (r:z.cells.size=1)
 (v:ah) (n:Nat) (xs:List ah) (hs:a.eval s=v) (j:w.ownsRow base e 1 v n xs)
 (k:IntKind) (u:ah) (f:List Int) (E:a.eval x=u) (F:dc w k u f)
 (y:n+f.length<=maxLen) (b:(n+f.length)*bytes<=140737488355328) (d:base<=w)
 (h:∀m l,l.ownsRow base e 1 m (n+f.length) (xs++f.map (Value.int k))->w.grownBy l v.ownBlock->wpList P g Q rest (a.put o.dst m) l):wpList P g Q (o::rest) a w:=
 wpList_plain p λ_ G=>xJ s x t A base e i z bytes B hi C c q r v n xs hs j k u f E F y b d λm l h2 H=>G _ _ (h m l h2 H)
def dc.grown{w':ae}{k:IntKind}{v:ah}{xs:List Int}(h:dc w k v xs)(a:w.grownBy w' none):dc w' k v xs:=
 h.below ((aO _ _).grown a (aP _) (λj b=>by cases b))
def ff(w:ae)(B g n:Nat)(f:Nat->Int):Prop:=
 w.ownsRow B 3 1 (av (some ⟨g,0,none⟩) n n) n ((List.range n).map (λj=>Value.int .i64 (f j)))
variable{B g n:Nat}{f:Nat->Int}
def ff.cell(h:ff w B g n f)(j:Nat)(a:j<n):w.cell? ⟨g,j,none⟩=(f j:Int):=by
 rw[World.ownsRow.cellAt h j (by omega)];simp[a]
def ff.frozen(h:ff w B g n f)(j:Nat):w.frozen? ⟨g,j,none⟩=false:=World.ownsRow.frozenAt h j
def ff.congr{f':Nat->Int}(h:ff w B g n f)(e:∀j,j<n->f j=f' j):ff w B g n f':=by
 unfold ff at h⊢;rw[show(List.range n).map (λj=>Value.int .i64 (f' j))=(List.range n).map (λj=>Value.int .i64 (f j))from jh (λj a=>by rw[e j (List.mem_range.1 a)])];exact h
def ff.store(h:ff w B g n f)(m:Nat)(x:Int):
 ff (w.setCell ⟨g,m,none⟩ (x:Int)) B g n (λj=>if j=m then x else f j)/\w.grownBy (w.setCell ⟨g,m,none⟩ (x:Int)) (some g):=by
 have⟨a,c⟩:=World.ownsRow.stored h m (x:Int);refine⟨?_,c⟩;unfold ff;have e:(List.range n).map (λj=>Value.int .i64 (if j=m then x else f j))=((List.range n).map (λj=>Value.int .i64 (f j))).set m (x:Int):=by
  apply List.ext_getElem
  .simp
  .intro i a c
   simp at a;rw[List.getElem_set];by_cases b:m=i
   .subst b;simp
   .rw[aC b];simp[Ne.symm b]
 rw[e];exact a
def ff.below{w':ae}(h:ff w B g n f)(a:ai w w w'):ff w' B g n f:=oB h a
def ff.reads(h:ff w B g n f):dc w .i64 (av (some ⟨g,0,none⟩) n n) ((List.range n).map f):=by
 unfold ff at h;have:=zR (k:=.i64) (xs:=(List.range n).map f) (B:=B) (e:=3) (v:=av (some ⟨g,0,none⟩) n n) (w:=w) (by simpa[fT,Function.comp_def]using h);exact this
def P8(n:Nat):(madeCells (Value.int IntKind.i64 0).cells (n*1)).toList=List.replicate n (an ar 0):=by
 apply List.ext_getElem
 .simp[size_madeCells]
 .intro i a b
  simp[madeCells,Value.cells,Nat.mod_one]
def P9(h:w.ownsRow B 3 1 (av (some ⟨g,0,none⟩) n n) n (List.replicate n (an ar 0))):ff w B g n (λ_=>0):=by
 unfold ff;have:(List.range n).map (λ_=>Value.int .i64 0)=List.replicate n (an ar 0):=by simp[List.map_const']
 rw[this];exact h
def WH:(prog.info? 390).map (λi=>(i.zero,i.size,i.bytes))=some (some (aG #[an ar 0,an ar 0]),2,16):=by kernel_rfl
def eQ(ps:List (Int×Int)):List ah:=ps.flatMap λq=> [an ar q.1,an ar q.2]
def CB(a:List (Int×Int))(q:Int×Int):eQ (a++ [q])=eQ a++ [an ar q.1,an ar q.2]:=by simp[eQ]
def lY:∀(a:List (Int×Int)) (i:Nat),i<a.length->(eQ a)[i*2]? =some (an ar (a.getD i (0,0)).1)/\(eQ a)[i*2+1]? =some (an ar (a.getD i (0,0)).2)
 |q::a,0,_=>by simp[eQ]
 |q::a,i+1,h=>by
  have:=lY a i (by simpa using h);have e:eQ (q::a)=an ar q.1::an ar q.2::eQ a:=rfl;rw[e,show(i+1)*2=i*2+1+1 by omega,show(i*2+1+1+1)=(i*2+1)+1+1 by omega];simpa using this
def iY(w:ae)(v:ah)(ps:List (Int×Int)):Prop:=
 ∃a cap,v=av a ps.length cap/\ps.length<=maxLen/\(ps.length<=cap/\(a=none->cap=0))/\∀i,i<ps.length->∃b off,a=some ⟨b,off,none⟩/\b<w.heap.size/\
  w.cell? ⟨b,off+i*2,none⟩=some (an ar (ps.getD i (0,0)).1)/\w.cell? ⟨b,off+i*2+1,none⟩=some (an ar (ps.getD i (0,0)).2)
def iY.below{w':ae}{v:ah}{j:List (Int×Int)}(h:iY w v j)(f:ai w w w'):iY w' v j:=by
 obtain⟨a,g,k,l,m,n⟩:=h;refine⟨a,g,k,l,m,λi o=> ?_⟩;have⟨b,c,e,d,q,r⟩:=n i o;exact⟨b,c,e,bP d f.size,(f.cell (p:=⟨b,c+i*2,none⟩) d).trans q,(f.cell (p:=⟨b,c+i*2+1,none⟩) d).trans r⟩
def iY.ext{v:ah}{a:List (Int×Int)}(h:iY w v a)(x:ae):iY (Go.Proofs.YtjpnlfpompnpkaaGreat.ext w x) v a:=h.below (bX w x)
def iY.alloc{v:ah}{a:List (Int×Int)}(h:iY w v a)(o:Obj):iY (w.alloc o) v a:=h.below ((aO _ _).alloc (aP _) o)
def zX(w:ae):iY w () []:=⟨none,0,rfl,by decide,⟨by decide,λ_=>rfl⟩,λi a=>by simp at a⟩
def Mr{v:ah}{c:List (Int×Int)}(h:iY w v c):∃a b,v=av a c.length b/\c.length<=maxLen/\c.length<=b:=by
 obtain⟨a,b,d,e,f,_⟩:=h;exact⟨a,b,d,e,f.1⟩
def I9{B:Nat}{e:TypeId}{v:ah}{a:List (Int×Int)}(h:w.ownsRow B e 2 v a.length (eQ a)):iY w v a:=by
 obtain⟨_,h⟩:=h;obtain⟨rfl,n⟩|⟨g,c,d,rfl,t,k,o,l,p,q⟩:=h
 .have:a=[]:=List.length_eq_zero_iff.1 n
  subst this;exact zX w
 .have b:∀j u,j<a.length*2->(eQ a)[j]? =some u->w.cell? ⟨g,j,none⟩=some u:=by
   intro j u r s;have f:(d.toList.take (a.length*2))[j]? =(eQ a)[j]? :=by rw[q]
   rw[List.getElem?_take_of_lt r,s]at f;simp only[World.cell?,k];rw[Array.getElem?_toList]at f;simpa using f
  refine⟨_,c,rfl,by omega,⟨o,λh=>by cases h⟩,λi m=>⟨g,0,rfl,(Array.getElem?_eq_some_iff.1 k).1,?_,?_⟩⟩
  .rw[eJ];exact b _ _ (by omega) (lY a i m).1
  .rw[eJ];exact b _ _ (by omega) (lY a i m).2
def lZ(w:ae)(B g n c:Nat)(f:Nat->Int):Prop:=
 w.ownsRow B 3 1 (av (some ⟨g,0,none⟩) n c) n ((List.range n).map (λj=>Value.int .i64 (f j)))
variable{c:Nat}
def lZ.cell(h:lZ w B g n c f)(j:Nat)(a:j<n):w.cell? ⟨g,j,none⟩=(f j:Int):=by
 rw[World.ownsRow.cellAt h j (by omega)];simp[a]
def lZ.frozen(h:lZ w B g n c f)(j:Nat):w.frozen? ⟨g,j,none⟩=false:=World.ownsRow.frozenAt h j
def lZ.congr{f':Nat->Int}(h:lZ w B g n c f)(e:∀j,j<n->f j=f' j):lZ w B g n c f':=by
 unfold lZ at h⊢;rw[show(List.range n).map (λj=>Value.int .i64 (f' j))=(List.range n).map (λj=>Value.int .i64 (f j))from jh (λj a=>by rw[e j (List.mem_range.1 a)])];exact h
def lZ.store(h:lZ w B g n c f)(m:Nat)(x:Int):
 lZ (w.setCell ⟨g,m,none⟩ (x:Int)) B g n c (λj=>if j=m then x else f j)/\w.grownBy (w.setCell ⟨g,m,none⟩ (x:Int)) (some g):=by
 have⟨a,d⟩:=World.ownsRow.stored h m (x:Int);refine⟨?_,d⟩;unfold lZ;have e:(List.range n).map (λj=>Value.int .i64 (if j=m then x else f j))=((List.range n).map (λj=>Value.int .i64 (f j))).set m (x:Int):=by
  apply List.ext_getElem
  .simp
  .intro i a d
   simp at a;rw[List.getElem_set];by_cases b:m=i
   .subst b;simp
   .rw[aC b];simp[Ne.symm b]
 rw[e];exact a
def lZ.below{w':ae}(h:lZ w B g n c f)(a:ai w w w'):lZ w' B g n c f:=oB h a
def lZ.lt(h:lZ w B g n c f):g<w:=(World.ownsRow.lt h g rfl).2
def lZ.base(h:lZ w B g n c f):B<=g:=(World.ownsRow.lt h g rfl).1
def WI{v:ah}(h:w.ownsRow B 3 1 v n (((List.range n).map f).map (Value.int .i64)))(i:0<n):∃g c,v=av (some ⟨g,0,none⟩) n c/\n<=c/\c<=maxLen/\lZ w B g n c f:=by
 have a:=h;obtain⟨_,j⟩|⟨g,c,b,rfl,_,_,d,e,_⟩:=h.2
 .omega
 .refine⟨g,c,rfl,d,e,?_⟩
  unfold lZ;simpa[fT,Function.comp_def]using a
def ZO(g n:Nat)(xs:List Int)(w:ae)(y:xs.length=n)(h:dc w .i64 (av (some ⟨g,0,none⟩) n n) xs)(Q:n<=1000000):
 aj prog 75 #[av (some ⟨g,0,none⟩) n n] w λe w'=>∃v,e=ax v/\w'.ownsRow w 3 1 v xs.length (xs.map (Value.int .i64))/\ai w w w':=by
 have⟨F,A,k,l,m⟩:=info_parts Ox;have⟨G,p,q,r⟩:=c_ A k l m;clear A k l m;have⟨H,B⟩:=aK h y;clear h y;have T:=λW=>lF (P:=prog) W 43 3 (some ⟨g,0,none⟩) n n 0 0 underlying43
 go_in;have a:=World.ownsRow_lit (base:=w.heap.size) (size:=1) (e:=3) w #[] 0 (aP _) (by decide) rfl;have c:∀j u,(xs.map (Value.int .i64))[j]? =some u->(w.alloc (aB #[] 3)).cell? ((⟨g,0,none⟩:Addr).add j)=some u:=by
  intro j u d;have⟨U,C,E,_,_,I⟩:=H.o;rw[uP]at d;cases hx:xs[j]? with
  |none=>rw[hx]at d;cases d
  |some x=>
   rw[hx]at d;simp only[Option.map_some,bA]at d;subst d;have s:=(List.getElem?_eq_some_iff.1 hx).1;have⟨b,J,e,t,K⟩:=I j s;simp only[bG]at E;obtain⟨rfl,_,_⟩:=E;simp only[bA,dr,et]at e;obtain⟨rfl,rfl⟩:=e;rw[show(⟨g,0,none⟩:Addr).add j=⟨g,0+j,none⟩by cases j<;>simp[Addr.add],World.cell?_alloc_past _ _ _ t,K,aU,hx];rfl
 have⟨L,M⟩:=aK c a;clear c a;go_wp2_with (at_builtin;refine wpList_append_own _ rfl (.tmp 5) (.tmp 6) 43 rfl w 3 F (0:Int) 1 8 underlying43 G.o p.o q.o r.o rfl (by decide) _ 0 [] rfl M.o ⟨g,0,none⟩ n n (xs.map (Value.int .i64)) rfl (by simp[B.o]) L.o (by intro u N;obtain⟨z,_,rfl⟩:=List.mem_map.1 N;rfl) (by unfold maxLen;omega) (by omega) (by simp) ?_;intro O V f i _);go_ret;refine⟨O,rfl,?_,((aO _ _).alloc (aP _) _).grown i (by simp) (λj d=>by cases d;exact aP _)⟩;rw[B.o];simpa using f
def low(x n:Int):Int:=(x%18446744073709551616)%n
def sH(x m:Int)(a:0<m):0<=low x m/\low x m<m:=by
 unfold low;exact⟨Int.emod_nonneg _ (by omega),Int.emod_lt_of_pos _ a⟩
def zY(x m:Int)(a:0<m)(c:m<9223372036854775808):wrap64 ((IntKind.u64.wrap x).tmod m)=low x m:=by
 have b:=sH x m a;have e:(IntKind.u64.wrap x).tmod m=low x m:=by
  unfold low;have:IntKind.u64.wrap x=x%18446744073709551616:=by rfl
  rw[this];exact Int.tmod_eq_emod_of_nonneg (Int.emod_nonneg _ (by omega))
 rw[e];unfold wrap64;omega
def ZP(x m:Int)(w:ae)(a:0<m)(b:m<2147483648):
 aj prog 15 #[x,m] w λe w'=>e=ax (low x m:Int)/\w=w':=by
 go_in;go_wp2;go_ret;exact⟨kH (zY x m a (by omega)),rfl⟩
open mX
def SZ(B:Nat)(o:Option (List Nat))(w:ae)(e:ak)(w':ae):Prop:=
 ∃v,e=ax (aM #[v,aw o.isSome])/\w'.ownsRow B 21 1 v (Fo o).length ((Fo o).map (Value.int .i32))/\ai w w w'
def S0(a:List Nat)(d:Nat):(a.map (λ(r:Nat)=>Value.int .i32 (r:Int)))++ [Value.int .i32 (d:Int)]=(a++ [d]).map (λ(r:Nat)=>Value.int .i32 (r:Int)):=by simp
def S7(w:ae)(u:ah)(t:TypeId):∀j x,[u][j]? =some x->(w.alloc (aB #[u] t)).cell? ((⟨w,0,none⟩:Addr).add j)=some x:=by
 intro j x a
 match j,a with
 |0,a=>simp at a;subst a;simp[Addr.add]
 |j+1,a=>simp at a
def ZQ(s:ByteArray)(w:ae)(hs:s.size<=140737488351232)(X:s.size*4<=140737488351232):
 aj prog 232 #[aA s] w (SZ w (kq s.data.toList) w):=by
 have⟨Y,Z,A,B,C⟩:=info_parts SY;have⟨HI,E,F,G⟩:=c_ Z A B C;go_in;go_wp2;go_loopw [4,6] (λv _ wr=>∃(pos:Nat) (c:List Nat),wr.ownsRow (w.heap.size+1) 21 1 v c.length (c.map (λ(r:Nat)=>Value.int .i32 (r:Int)))/\kq s.data.toList=(left s.data.toList pos).map (c++·)/\c.length<=pos/\pos<=s.size+3/\
  wr.heap[w.heap.size]? =some (.stringIter s pos)/\ai w w wr/\w.heap.size+1<=wr.heap.size) (λ_ _ wr=>s.size-wr.iterPos w)
 case atStart=>exact⟨0,[],World.ownsRow_nil _ _ _ _,by rw[zU];cases kq s.data.toList<;>rfl,by simp,bz _,World.iter_heap _ _ _,(aO _ _).alloc (aP _) _,by simp[World.iter]⟩
 case round=>
  obtain⟨pos,c,h,O,ha,P,i,f,H⟩:=hrel;have p:=au i;by_cases y:pos<s.size
  .have I:∀m,(Instr.next w true m).run prog wr=_:=λm=>Lib.run_next_any_at wr w s pos m i y
   have q:=DV (l:=s.data.toList) (pos:=pos) y;rw[<-mY]at q;have J:=mZ (s.data.toList.drop pos);rw[<-mY]at J;generalize hd:Utf8.decode s pos=d at*;have⟨Q,z⟩:=aK q O;by_cases T:d.1=65533
   .have hb:((d.1:Int)==65533)=true:=by simp;omega
    have K:=au T;go_wp2;go_ret2;have e:=I6 Q.o z.o K.o;exact⟨av none 0 0,by rw[e];rfl,by rw[e];exact World.ownsRow_nil _ _ _ _,Lib.below_iterAt f (aP _) _ _⟩
   .have hb:((d.1:Int)==65533)=false:=by simp;omega
    have K:=au T;have a:=ownsRow_iterAt h (k:=w.heap.size) (by omega) s (pos+d.2);have t:=au (Lib.iterAt_heap wr w s pos (pos+d.2) p.o);have n:=Lib.below_iterAt f (aP _) s (pos+d.2);have U:w.heap.size+1<=(wr.iterAt w s (pos+d.2)).heap.size:=by rw[Lib.iterAt_size];exact H
    generalize hwn:wr.iterAt w s (pos+d.2)=wn at*;go_wp2_with (at_builtin;refine wpList_append_own _ rfl (.tmp 14) (.tmp 16) 375 rfl (w.heap.size+1) 21 Y (.int .i32 0) 1 4 underlying375 HI.o E.o F.o G.o rfl (by decide) _ _ _ rfl (a.alloc _) ⟨wn,0,none⟩ 1 1 [.int .i32 d.1] rfl rfl (S7 _ _ _) (by intro u V;simp at V;subst V;rfl) (by unfold maxLen;omega) (by omega) (by simp;omega) ?_;intro v1 W g b _);rw[S0]at g;have L:=(n.alloc (by omega) _).grown b (by simp;omega) (λj hj=>by have:=(a.lt j hj).1;omega);have M:W.heap[w.heap.size]? =some (.stringIter s (pos+d.2)):=by
     rw[b.block w (by simp;omega) (λe=>by have:=(a.lt _ e.symm).1;omega)];exact(fH _ _ _ (by omega)).trans t.o
    have N:w.heap.size+1<=W.heap.size:=by have:=b.size;simp at this;omega
    have x:=au M;go_wp2;go_roundw
    case rel=>exact⟨pos+d.2,c++ [d.1],by simpa using g,DW Q.o z.o K.o,by simp;omega,by omega,x.o,L,N⟩
    case measure=>rw[iterPos_of x.o,iterPos_of p.o];omega
  .have I:∀m,(Instr.next w true m).run prog wr=_:=λm=>Lib.run_next_end_at wr w s pos m i y
   have z:=au O;go_wp2;go_ret2;have e:=DX z.o y;have h2:=tH h (show w.heap.size<=w.heap.size+1 by omega);exact⟨u4,by rw[e];rfl,by rw[e];simpa[Fo,fT,Function.comp_def]using h2,f⟩
end Go.Proofs.YtjpnlfpompnpkaaGreat
