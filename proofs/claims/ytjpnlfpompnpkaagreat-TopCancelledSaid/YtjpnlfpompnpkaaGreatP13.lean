import Derived.Test.YtjpnlfpompnpkaaGreatP08
namespace Go.Proofs.YtjpnlfpompnpkaaGreat
open Go.RowKit Go.Proofs.Tryz
open Go.Value renaming int->an,slice->av,bool->aw,string->aA,tuple->aM,pointer->aL,agg->aG
open Go.IntKind renaming i64->ar
open Go.Ending renaming returned->ax
open Go.Obj renaming cells->aB
open Go renaming World->ae,Value->ah,Calls->aj,Ending->ak
open Go.RowKit renaming Below->ai
set_option maxRecDepth 100000
set_option linter.all false
set_option maxHeartbeats 4000000
open Go.ChangeMaps mX
structure xj(w:ae)(p b:Nat)(g:Option Nat)(v:ah)(rs:List er):Prop where
 r:aT t_ 1 w v rs
 f:∀a n c,v=av (some a) n c->a.block<w.heap.size/\a.block≠p/\a.block≠b/\g≠some a.block
def AP(n:Nat)(st:kT)(rs:List er)(q p b:Nat)(g:Option Nat)(ms:List dP)(w:ae)(e:ak)(w':ae):Prop:=
 ∃g' v' ms',e=ax (an ar (dS n st rs).2)/\mh w' q p b g' v' ms' (dS n st rs).1.keys/\ms'.map dP.n=(dS n st rs).1.nodes/\(g'=g∨∃x,g'=some x/\w.heap.size<=x)/\aQ (p::b::g.toList) w w'/\∀m∈ms',∀x,m.eb=some x->(∃m0∈ms,m0.eb=some x)∨w.heap.size<=x
variable{p b:Nat}{g:Option Nat}{w:ae}
def JX{n:Nat}{st:kT}{rs:List er}{q:Nat}{ms:List dP}{w':ae}{i:Int}{g':Option Nat}{v':ah}{ms':List dP}(h:(dS n st rs).2=i)(a:mh w' q p b g' v' ms' (dS n st rs).1.keys)(c:ms'.map dP.n=(dS n st rs).1.nodes)(d:g'=g∨∃x,g'=some x/\w.heap.size<=x)(e:aQ (p::b::g.toList) w w')(f:∀m∈ms',∀x,m.eb=some x->(∃j∈ms,j.eb=some x)∨w.heap.size<=x):AP n st rs q p b g ms w (ax i) w':=
 ⟨g',v',ms',by rw[h],a,c,d,e,f⟩
def Um(rs:List er):(oY rs).length<=tb rs+rs.length:=by
 unfold oY;cases rs with
 |nil=>simp[Lib.join_nil,tb]
 |cons x l=>
  rw[Lib.join_cons,bF,pM,cG];have:∀l:List er,(Lib.joinTail [255] l).length=tb l+l.length:=λl=>by
   induction l with
   |nil=>rfl
   |cons a r c=>
    have e:Lib.joinTail [255] (a::r)=([255]++a)++Lib.joinTail [255] r:=by simp[Lib.joinTail]
    rw[e,bF,c,pM,cG];simp;omega
  rw[this];omega
structure vt(n:Nat)(fin:kT×List eY)(w:ae)(q p b:Nat)(g:Option Nat)(ms0:List dP)(n0:Nat)(v1 v10:ah)(wr:ae)where
 m:Nat
 st:kT
 rs:List er
 es:List eY
 gr:Option Nat
 vr:ah
 ms:List dP
 eg:Option Nat
 f:dz (dS n) m st rs es=fin
 hm:rs.length<=m
 srt:xL rs
 ne:∀y∈rs,y≠[]
 len:∀y∈rs,y.length<n+1
 cnt:st.nodes.length+tb rs<=50000
 rl:rs.length<=1000
 tx:xj wr p b gr v1 rs
 ed:Seg wr 303 2 eg v10 (rO es) es.length
 el:es.length+rs.length<=1000
 e1:∀x,eg=some x->w.heap.size<=x/\gr≠some x
 e2:∀m∈ms,∀x,eg=some x->m.eb≠some x
 bl:mh wr q p b gr vr ms st.keys
 mn:ms.map dP.n=st.nodes
 g1:gr=g∨∃x,gr=some x/\w.heap.size<=x
 c:aQ (p::b::g.toList) w wr
 n1:n0<st.nodes.length
 qs:q<w
 tf:∀a k c,v1=av (some a) k c->a.block<w.heap.size
 e3:∀m∈ms,∀x,m.eb=some x->(∃m0∈ms0,m0.eb=some x)∨w.heap.size<=x
theorem vt.next{n:Nat}{O:kT×List eY}{wo z z' t:ae}{q:Nat}{ms0:List dP}{n0:Nat}{m:Nat}{h:kT}{d:List er}{es:List eY}{P:Option Nat}{Q:List dP}{eg:Option Nat}{v j rc:Nat}{x:er}{l:List er}{G:Nat}
 (hf1:dz (dS n) m h d es=O) (hm1:d.length<=m) (J:xL d) (ne1:∀y∈d,y≠[]) (Un:∀y∈d,y.length<n+1) (cnt1:h.nodes.length+tb d<=50000) (Wo:d.length<=1000)
 (Zn:xj wo p b P (av (some ⟨v,j,none⟩) d.length rc) d) (el1:es.length+d.length<=1000) (e1:∀x,eg=some x->w.heap.size<=x/\P≠some x) (u:∀m∈Q,∀x,eg=some x->m.eb≠some x)
 (g1:P=g∨∃x,P=some x/\w.heap.size<=x) (c1:aQ (p::b::g.toList) w wo) (n1:n0<h.nodes.length) (qs:q<w) (tf:v<w) (e3:∀m∈Q,∀x,m.eb=some x->(∃T∈ms0,T.eb=some x)∨w.heap.size<=x) (grl:∀x,P=some x->x<wo.heap.size)
 (U:∀x,eg=some x->x<wo.heap.size)
 (A:d=x::l) (hG:G=jN (jE x) d) (hz:ai wo wo z) {g2:Option Nat} {v2:ah} {B:List dP} (V:mh z' q p b g2 v2 B (dS n h (dR x d)).1.keys) (XI:B.map dP.n=(dS n h (dR x d)).1.nodes) (F:g2=P∨∃x,g2=some x/\z.heap.size<=x) (W:aQ (p::b::P.toList) z z') (he2:∀m∈B,∀x,m.eb=some x->(∃T∈Q,T.eb=some x)∨z.heap.size<=x)
 {a':Option Addr} {c':Nat} {C:Option Nat} (hs:Seg t 303 2 C (av a' (es.length+1) c') (rO (es++ [(((fV x).1:Int),((dS n h (dR x d)).2:Int))])) (es++ [(((fV x).1:Int),((dS n h (dR x d)).2:Int))]).length) (H:aQ eg.toList z' t) (hge:C=eg∨∃b,C=some b/\z'.heap.size<=b) (hrc:d.length<=rc):
 Nonempty (vt n O w q p b g ms0 n0 (av (if rc=G then some ⟨v,j,none⟩else some ⟨v,j+G,none⟩) (d.length-G) (rc-G)) (av a' (es.length+1) c') t):=by
 have hG1:G<=d.length:=by rw[hG];exact M3 _ _
 have hG0:1<=G:=by rw[hG,A];exact tZ x l
 have K:=ne1 x (by rw[A];simp);have hbt:=qX (l:=d) K;rw[<-hG]at hbt;have htb:tb d=tb (d.take G)+tb (d.drop G):=by rw[<-AF,mE]
 have hnc:=(nI n h _ (nf J K)).1;have hnm:=Ef n h (dR x d);obtain⟨m',rfl⟩:∃m',m=m'+1:=⟨m-1,by rw[A]at hm1;simp at hm1;omega⟩
 have X:dz (dS n) m' (dS n h (dR x d)).1 (d.drop G) (es++ [(((fV x).1:Int),((dS n h (dR x d)).2:Int))])=O:=by
  rw[<-hf1,hG]
  conv=>rhs;rw[A];unfold dz
  rw[<-A]
 have zs:=hz.size;have zs':=W.size;have cs:=c1.size;have o:=Zn.f ⟨v,j,none⟩ _ _ rfl;have aiu:∀x,g2=some x->x≠v:=λx i e=>by
  subst e;obtain e|⟨y,e,E⟩:=F
  .exact o.2.2.2 (by rw[<-e,i])
  .rw[i]at e
   simp only[bA]at e;have:=o.1;simp at this;omega
 have hrd:aT t_ 1 t (av (if rc=G then some ⟨v,j,none⟩else some ⟨v,j+G,none⟩) (d.length-G) (rc-G)) (d.drop G):=by
  refine xd (((Zn.r.below hz).bH W λa n c e=> ?_).bH H λa n c e=> ?_) hG1
  .simp only[bG,bA]at e
   obtain⟨rfl,_⟩:=e;simp only[bQ,eZ,not_or];exact⟨o.2.1,o.2.2.1,o.2.2.2⟩
  .simp only[bG,bA]at e
   obtain⟨rfl,_⟩:=e;intro e;have:=(e1 v (by simpa using e)).1;omega
 have L:∀(a:Addr) k c,Value.slice (if rc=G then some (⟨v,j,none⟩:Addr)else some ⟨v,j+G,none⟩) (d.length-G) (rc-G)=av (some a) k c->a.block=v:=λa k c e=>by
  simp only[bG]at e;have h2:=e.1;split at h2<;>(simp only[bA]at h2;rw[<-h2])
 have aiv:∀x,C=some x->w.heap.size<=x/\g2≠some x:=λx i=>by
  obtain e|⟨y,e,E⟩:=hge
  .have⟨k1,k2⟩:=e1 x (by rw[<-e,i])
   refine⟨k1,λY=> ?_⟩;obtain u|⟨y,u,E⟩:=F
   .exact k2 (by rw[<-u,Y])
   .rw[Y]at u
    simp only[bA]at u;have:=U x (by rw[<-e,i]);omega
  .rw[i]at e
   simp only[bA]at e;subst e;refine⟨by omega,λY=> ?_⟩;have:=V.gr.s.lt x Y;omega
 have M:∀m∈B,∀x,eg=some x->m.eb≠some x:=λm N x i e=>by
  obtain⟨T,Z,h0⟩|h0:=he2 m N x e
  .exact u T Z x i h0
  .have:=U x i
   omega
 refine⟨⟨m',(dS n h (dR x d)).1,d.drop G,_,g2,v2,B,C,X,by rw[j8];omega,J.sublist (List.drop_sublist _ _),λy E=>ne1 y (nu E),λy E=>Un y (nu E),by omega,by rw[j8];omega,⟨hrd,λa k c e=> ?_⟩,hs,?_,aiv,λm N x i=> ?_,V.bH H (λx i=> ?_),XI,?_,?_,by omega,qs,λa k c e=>by rw[L a k c e];exact tf,λm N x i=> ?_⟩⟩
 .rw[L a k c e]
  have h1:=o.1;have h2:=H.size;simp only at h1;exact⟨by omega,o.2.1,o.2.2.1,λe=>aiu _ e rfl⟩
 .rw[bF,j8];simp;omega
 .obtain e|⟨y,e,E⟩:=hge
  .exact M m N x (by rw[<-e,i])
  .intro u
   rw[i]at e;simp only[bA]at e;subst e;have:=V.gr.eb N u;omega
 .have I:eg=some x:=by simpa using i
  refine⟨by have:=(e1 x I).1;omega,λY=> ?_,λm N=>M m N x I⟩;obtain u|⟨y,u,E⟩:=F
  .exact(e1 x I).2 (by rw[<-u,Y])
  .rw[Y]at u
   simp only[bA]at u;have:=U x I;omega
 .obtain e|⟨y,e,E⟩:=F
  .rw[e];exact g1
  .exact .inr ⟨y,e,by omega⟩
 .refine((c1.trans ((ch hz).mono (by simp))).wide W λx i=> ?_).wide H λx i=>.inr (e1 x (by simpa using i)).1
  simp only[bQ,eZ]at i⊢;obtain rfl|rfl|i:=i
  .exact .inl (.inl rfl)
  .exact .inl (.inr (.inl rfl))
  .obtain e|⟨y,e,E⟩:=g1
   .exact .inl (.inr (.inr (by rw[<-e];exact i)))
   .rw[i]at e
    simp only[bA]at e;subst e;exact .inr E
 .obtain⟨T,Z,h0⟩|h0:=he2 m N x i
  .exact e3 T Z x h0
  .exact .inr (by omega)
def mh.fill{q a n u:Nat}{ms:List dP}{o:List er}(h:mh w q p b (some a) (av (some ⟨a,n,none⟩) ms.length u) ms o)(k:Nat)(y:k<ms.length)(f:Bool){es:List eY}{ev:ah}{eg:Option Nat}(z:Seg w 303 2 eg ev (rO es) es.length)(v:∀x,eg=some x->q<x/\x≠a):
 mh ((w.setCell ⟨a,n+k*2,none⟩ (aw f)).setCell ⟨a,n+k*2+1,none⟩ ev) q p b (some a) (av (some ⟨a,n,none⟩) ms.length u) (ms.set k ⟨⟨f,es⟩,ev,eg⟩) o/\aQ [a] w ((w.setCell ⟨a,n+k*2,none⟩ (aw f)).setCell ⟨a,n+k*2+1,none⟩ ev):=by
 have t:aQ [a] w ((w.setCell ⟨a,n+k*2,none⟩ (aw f)).setCell ⟨a,n+k*2+1,none⟩ ev):=((aQ.refl _ _).setCell _ (by simp) _).setCell _ (by simp) _;have A:=h.o1;have B:=h.o2;have E:=h.o3 a rfl;have C:=iw (iw h.gr.s (j:=k*2) (by omega) (aw f)) (j:=k*2+1) (by omega) ev;have i:∀m∈ms.set k ⟨⟨f,es⟩,ev,eg⟩,m∈ms∨m=⟨⟨f,es⟩,ev,eg⟩:=λm d=>jC d
 refine⟨⟨t.at h.bq (by simp;omega),⟨t.at h.gr.c (by simp;omega),?_,λm d=> ?_,h.gr.d1,λm d x l=> ?_⟩,h.mp.bH t (by simp;omega),A,B,h.o3,λm d x l=> ?_,by rw[ds];exact h.kl⟩,t⟩
 .rw[Xz ms k y,ds]
  simpa[Nat.add_assoc]using C
 .obtain d|rfl:=i m d
  .exact Seg.bH (show Seg w 303 2 m.eb m.ev _ _ from h.gr.r m d) t λx l e=>(h.gr.d2 m d x l).2 (by simp at e;rw[e])
  .exact z.bH t λx l e=>(v x l).2 (by simpa using e)
 .obtain d|rfl:=i m d
  .exact h.gr.d2 m d x l
  .exact⟨by have:=(v x l).1;omega,λe=>(v x l).2 (by simpa using e.symm)⟩
 .obtain d|rfl:=i m d
  .exact h.o4 m d x l
  .exact(v x l).1
def Zo:ah->Nat
 |av _ n _=>n
 |_=>0
def SA:dP:=⟨⟨false,[]⟩,(),none⟩
def mh.push{q:Nat}{v:ah}{ms:List dP}{f:List er}(h:mh w q p b g v ms f){K:er}(X:(⟨K.toArray⟩:ByteArray).size<=maxLen)(P:O5 f K=none)(hn:ms.length<=100000):
 ∃w1,(Instr.mapUpdate 328 (.map (some b)) (aA ⟨K.toArray⟩) (ms.length:Int)).run prog w=.ok () w1/\aQ [b] w w1/\∀y,aQ ([]:List Nat) w1 y->∃A B t g',(∀Y,(Builtin.append_ #[304,304] Y #[v,av (some ⟨y,0,none⟩) 1 1]).run prog (y.alloc (aB #[aw false,()] 308 (0,0)))=.ok (av A (ms.length+1) B) t)/\
  t.heap[p]? =some (aB #[v] 306 (0,0))/\t.heap[q]? =some (aB #[p,.map (some b)] 330 (0,0))/\mh (t.setCell ⟨p,0,none⟩ (av A (ms.length+1) B)) q p b g' (av A (ms.length+1) B) (ms++ [SA]) (f++ [K])/\(g'=g∨∃x,g'=some x/\w.heap.size<=x)/\aQ (p::b::g.toList) w (t.setCell ⟨p,0,none⟩ (av A (ms.length+1) B)):=by
 have F:=h.kl;have⟨w1,Z,d,ht⟩:=h.mp.store (by omega) X (y:=(ms.length:Int)) (eN (by omega) (by omega));have e0:(⟨K.toArray⟩:ByteArray).data.toList=K:=by simp
 rw[e0,P]at d;simp only[Option.isSome_none,oA,if_false]at d;rw[F,Ub P]at d;have G:=sP ht;refine⟨w1,Z,G,λy Q=> ?_⟩;have o1:=h.o1;have o2:=h.o2;have l:∀x,g=some x->x≠b/\x≠p/\x≠q:=λx a=>by have:=h.o3 x a;omega
 have j:=G.trans (Q.mono (by simp));have hs:=h.gr.s.bH j (λx a=>by simpa using(l x a).1);have⟨A,B,t,g',H,I,n,C⟩:=hs.node SA rfl (by omega);have⟨N,J⟩:=aD (Value.slice A (ms.length+1) B);rw[<-J]at I;have T:t.heap[p]? =_:=n.at (j.at h.gr.c (by simp;omega)) (λe=>(l p (by simpa using e)).2.1 rfl);have U:t.heap[q]? =_:=n.at (j.at h.bq (by simp;omega)) (λe=>(l q (by simpa using e)).2.2 rfl);have o:aQ [p] t (t.setCell ⟨p,0,none⟩ N):=(aQ.refl [p] t).setCell _ (by simp) _;have hys:=j.size;have E:∀x,g'=some x->q<x:=λx a=>by
  obtain e|⟨z,e,V⟩:=C
  .exact h.o3 x (by rw[<-e,a])
  .rw[a]at e
   simp only[bA]at e;subst e;have:=az h.bq;omega
 have u:aQ (p::b::g.toList) w (t.setCell ⟨p,0,none⟩ N):=((j.mono (by simp)).trans (n.mono (λx a=>by simp only[bQ];exact .inr (.inr a)))).trans (o.mono (by simp));have L:∀m∈ms,∀x,m.eb=some x->x≠p/\x≠b/\g≠some x/\g'≠some x:=λm d x a=>by
  have h1:=h.o4 m d x a;have W:=h.gr.d2 m d x a;refine⟨by omega,by omega,W.2,λe=> ?_⟩;obtain M|⟨z,M,V⟩:=C
  .exact W.2 (by rw[<-M,e])
  .rw[e]at M
   simp only[bA]at M;subst M;have:=h.gr.eb d a;omega
 have O:nB (t.setCell ⟨p,0,none⟩ N) b (O5 (f++ [K])) (f++ [K]).length:=by
  rw[bF];exact((d.bH Q (by simp)).bH n (λe=>(l b (by simpa using e)).1 rfl)).bH o (by simp;omega)
 have k:∀m∈ms++ [SA],m∈ms∨m=SA:=λm d=>by simpa using d
 refine⟨A,B,t,g',H,T,U,?_⟩;rw[<-J];refine⟨⟨o.at U (by simp;omega),⟨by simpa using aE (i:=0) T N,I.bH o (λx a=>by have:=E x a;simp;omega),λm d=> ?_,λx a=>by have:=E x a;omega,λm d x a=> ?_⟩,O,o1,o2,E,λm d x a=> ?_,by simp[F]⟩,?_,u⟩
 .obtain d|rfl:=k m d
  .refine Seg.bH (show Seg w 303 2 m.eb m.ev _ _ from h.gr.r m d) u (λx a e=> ?_)
   have⟨k1,k2,k3,_⟩:=L m d x a;simp only[bQ,eZ]at e;obtain rfl|rfl|e:=e
   .exact k1 rfl
   .exact k2 rfl
   .exact k3 e
  .exact Seg.nil _ _ _
 .obtain d|rfl:=k m d
  .exact⟨(h.gr.d2 m d x a).1,(L m d x a).2.2.2⟩
  .cases a
 .obtain d|rfl:=k m d
  .exact h.o4 m d x a
  .cases a
 .obtain e|⟨z,e,V⟩:=C
  .exact .inl e
  .exact .inr ⟨z,e,by omega⟩
def aeo:∀(n:Nat) (w:ae) (st:kT) (rs:List er) (v1:ah) (q p b:Nat) (g:Option Nat) (vg:ah) (ms:List dP),
 xL rs->rs≠[]->(∀y∈rs,y.length<n)->st.nodes.length+1+tb rs<=50000->rs.length<=1000->xj w p b g v1 rs->mh w q p b g vg ms st.keys->ms.map dP.n=st.nodes->
 aj prog 177 #[q,v1] w (AP n st rs q p b g ms w):=by
 intro n
 induction n with
 |zero=>
  intro w st rs v1 q p b g vg ms hs hne hl;cases rs with
  |nil=>exact bL rfl hne
  |cons x l=>exact bL (hl x (by simp)) (by omega)
 |succ n ih=>
  intro w st rs v1 q p b g vg ms hs hne hl hcnt hrl htx P hmn;have HIH:=au ih;clear ih;have hjl:=Um rs;have hkl:(oY rs).length<=100000:=by omega
  have HJ:=au (adZ v1 _ w (xc htx.r) ⟨#[255]⟩ (by simpa using hrl) (by
   have e:(rs.map λl:er=>(⟨l.toArray⟩:ByteArray)).map (·.data.toList)=rs:=by rw[fT];simp[Function.comp_def]
   rw[e];exact bD hkl (by decide)))
  have hje:(⟨(Lib.join ((rs.map λl:er=>(⟨l.toArray⟩:ByteArray)).map (·.data.toList)) ((⟨#[255]⟩:ByteArray).data.toList)).toArray⟩:ByteArray)=⟨(oY rs).toArray⟩:=by
   have e:(rs.map λl:er=>(⟨l.toArray⟩:ByteArray)).map (·.data.toList)=rs:=by rw[fT];simp[Function.comp_def]
   rw[e];rfl
  rw[hje]at HJ;have⟨K,hK⟩:=aD (oY rs);rw[<-hK]at HJ hkl;have hKs:(⟨K.toArray⟩:ByteArray).size<=maxLen:=by
   show K.toArray.size<=maxLen
   simp[maxLen];omega
  have c0:w.cell? q=p:=by have:=P.bq;simp[World.cell?,this]
  have c1:w.cell? ⟨q,1,none⟩=some (.map (some b)):=by have:=P.bq;simp[World.cell?,this]
  have ql:=az P.bq;have⟨HB,Wp⟩:=aK P htx;obtain⟨a1,L,rfl,_,hcap1,_⟩:=htx.r;have⟨HS,HL,HMN,HK⟩:=c_ hs hl hmn hK;cases hf:O5 st.keys K with
  |some i=>
   have⟨i0,i1⟩:=JM hf;have Zp:dS (n+1) st rs=(st,i.toNat):=by unfold dS;rw[<-hK,hf]
   have⟨Q,HF⟩:=aK Zp hf;clear hs hl htx P hmn hje hK hf Zp hjl;go_in;go_wp2_with fail
   (with_reducible refine aN HJ.o ?_)
   intro y E;have T:=((HB.o.mp).bH (ch E) (by simp)).look_ok hKs;have e0:(⟨K.toArray⟩:ByteArray).data.toList=K:=by simp
   rw[e0,HF.o]at T;have HLK:=au T;have d0:=(E.cell (p:=⟨q,0,none⟩) ql).trans c0;have d1:=(E.cell (p:=⟨q,1,none⟩) ql).trans c1;have HY:=au E;clear E T c0 c1 e0;have lk:=HLK.o;have ke:=au (JX (n:=n+1) (st:=st) (rs:=rs) (q:=q) (p:=p) (b:=b) (g:=g) (w:=w) (ms:=ms) (w':=y) (i:=i) (g':=g) (v':=vg) (ms':=ms) (by rw[Q.o];simp;omega) (by rw[Q.o];exact HB.o.bH (ch HY.o) (by simp)) (by rw[Q.o];exact HMN.o) (.inl rfl) ((ch HY.o).mono (by simp)) (λm hm x B=>.inl ⟨m,hm,B⟩));go_wp2;go_ret;exact ke.o
  |none=>
   have hmk:ms.length=st.nodes.length:=by rw[<-hmn,cr]
   have hf':=hK▸hf;have Zp:(dS (n+1) st rs)=(⟨(dz (dS n) (ew rs).length ⟨st.nodes++ [⟨false,[]⟩],st.keys++ [oY rs]⟩ (ew rs) []).1.nodes.set st.nodes.length ⟨tX rs,(dz (dS n) (ew rs).length ⟨st.nodes++ [⟨false,[]⟩],st.keys++ [oY rs]⟩ (ew rs) []).2⟩,
    (dz (dS n) (ew rs).length ⟨st.nodes++ [⟨false,[]⟩],st.keys++ [oY rs]⟩ (ew rs) []).1.keys⟩,st.nodes.length):=by conv=>lhs;unfold dS;rw[hf']
   have⟨FIN,aaF⟩:=aD (dz (dS n) (ew rs).length ⟨st.nodes++ [⟨false,[]⟩],st.keys++ [oY rs]⟩ (ew rs) []);rw[<-aaF]at Zp;have⟨Q,ke,HF⟩:=aX Zp aaF hf;have hgv:∃va vc,vg=av va ms.length vc:=by have⟨a,c,e,_⟩:=P.gr.s.len;exact⟨a,c,e⟩
   obtain⟨va,vc,rfl⟩:=hgv;have cg:w.cell? p=some (av va ms.length vc):=by have:=P.gr.c;simp[World.cell?,this]
   have pl:=az P.gr.c;have⟨HMK,HNE⟩:=aK hmk hne;clear hs hl htx P hmn hje hK hf hf' Zp hjl aaF hmk hne;go_in;go_wp2_with fail
   (with_reducible refine aN HJ.o ?_)
   intro y E;have U:=HB.o.bH (ch E) (by simp);have T:=U.mp.look_ok hKs;have e0:(⟨K.toArray⟩:ByteArray).data.toList=K:=by simp
   rw[e0,HF.o]at T;have⟨w1,hr1,hc1,hpush⟩:=U.push hKs HF.o (by have:=HMK.o;omega);have⟨HLK,HR1⟩:=aK T hr1;have d0:=(E.cell (p:=⟨q,0,none⟩) ql).trans c0;have d1:=(E.cell (p:=⟨q,1,none⟩) ql).trans c1;have dg:=(E.cell (p:=⟨p,0,none⟩) pl).trans cg;have hb1:w1.heap[q]? =_:=hc1.at U.bq (by have:=U.o2;simp;omega);have hp1:w1.heap[p]? =_:=hc1.at U.gr.c (by have:=U.o1;simp;omega);have⟨f0,f1⟩:=dk hb1;have fg:=aF hp1 0 rfl;have ql3:=az hb1;have pl3:=az hp1;have⟨a2,c2,t,g',A,htp,htq,hbt,hgt,hct⟩:=hpush w1.drew (aQ.refl _ _).drew;have M:=au A;have tg:=aF htp 0 rfl;have tq:=aF htq 0 rfl;have tf:=bB htp 0;have⟨QJ,HGT,HCT,HY⟩:=c_ hbt hgt hct E;clear E U T c0 c1 e0 hpush hr1 hc1 cg hb1 hp1 A htp htq hbt hgt hct;have lk:=HLK.o;have r1:=HR1.o;go_upto_region 7 with fail
   go_cut [] (λwr=>t.setCell ⟨p,0,none⟩ (av a2 (ms.length+1) c2)=wr)
   case first=>
    go_region_law (first
     |(refine kM (by rfl) (.tmp 52) (.tmp 54) 304 (by rfl) _ _ _ t (by rfl) (by rfl) (M.o _) ?_)
     |fail)
    all_goals
     go_wp2_with fail
     go_meet;exact rfl
   case rest=>
    obtain rfl:=hcut;clear lk r1 tg tq tf d0 d1 dg f0 f1 fg ql3 pl3;have⟨W,hW⟩:=aD (t.setCell ⟨p,0,none⟩ (av a2 (ms.length+1) c2));have hwb:mh W q p b g' (av a2 (ms.length+1) c2) (ms++ [SA]) (st.keys++ [K]):=by rw[hW];exact QJ.o
    have hcw:aQ (p::b::g.toList) w W:=((ch HY.o).mono (by simp)).trans (by rw[hW];exact HCT.o);rw[<-hW];have hgw:g'=g∨∃x,g'=some x/\w.heap.size<=x:=HGT.o.imp id λ⟨x,h1,h2⟩=>⟨x,h1,bD HY.o.size h2⟩
    have htw:xj W p b g' (av a1 rs.length L) rs:=by
     refine⟨Wp.o.r.bH hcw λa n c e=> ?_,λa n c e=> ?_⟩
     .have⟨k1,k2,k3,k4⟩:=Wp.o.f a n c e
      simp only[bQ,eZ,not_or];exact⟨k2,k3,k4⟩
     .have⟨k1,k2,k3,k4⟩:=Wp.o.f a n c e
      refine⟨bP k1 hcw.size,k2,k3,λe2=> ?_⟩;obtain e3|⟨x,e3,B⟩:=hgw
      .exact k4 (by rw[<-e3,e2])
      .rw[e2]at e3
       simp only[bA]at e3;omega
    have⟨HWB,XJ,HGW,HTW⟩:=c_ hwb hcw hgw htw;have H:0<rs.length:=by have:=HNE.o;cases rs with|nil=>exact bL rfl this|cons x l=>simp
    obtain⟨V,tof,rfl,htb,h⟩:=htw.r.slot 0 H;have c0:=h 0 _ rfl;simp only[Nat.zero_mul,bM]at c0;have⟨x0,hx0⟩:=aD (rs.getD 0 ());have I:tX rs=x0.isEmpty:=by rw[hx0];cases rs with|nil=>simp at H|cons x l=>rfl
    rw[<-hx0]at c0;have h00:(0:Int)<(rs.length:Int):=by omega
    have HFV:=au I;clear hW hwb hcw hgw htw h hx0 I;go_upto_region 8 with fail
    go_cut [9] (λv wr=>v=aw (tX rs)/\W=wr)
    case first=>
     cases he:x0.isEmpty
     .have hle:(⟨x0.toArray⟩:ByteArray).toList.isEmpty=false:=by rw[Go.ByteArray.toList_eq];simpa using he
      have HE:=au he;clear he;go_wp2_with fail
      go_meet;exact⟨by rw[HFV.o,HE.o],rfl⟩
     .have hle:(⟨x0.toArray⟩:ByteArray).toList.isEmpty=true:=by rw[Go.ByteArray.toList_eq];simpa using he
      have HE:=au he;clear he;go_wp2_with fail
      go_meet;exact⟨by rw[HFV.o,HE.o],rfl⟩
    case rest=>
     obtain⟨rfl,rfl⟩:=hcut
     go_upto_if 67 with fail
     go_cut [1,9] (λv v9 wr=>v9=aw (tX rs)/\xj W p b g' v (ew rs)/\(∀a k c,v=av (some a) k c->a.block<w.heap.size)/\W=wr)
     case first=>
      have⟨fb,hfb⟩:=aD (tX rs);rw[<-hfb];have Zb:=au hfb;clear hfb;cases I:fb
      .have⟨Wm,aaG⟩:=aK (show ew rs=rs by unfold ew;rw[<-Zb.o,I];rfl) I
       clear I;go_wp2_with fail
       go_meet;exact⟨by rw[<-Zb.o,aaG.o],by rw[Wm.o];exact HTW.o,λa k c e=>(Wp.o.f a k c e).1,rfl⟩
      .have Wm:=au (show ew rs=rs.drop 1 by unfold ew;rw[<-Zb.o,I];simp)
       have hdr:=xd HTW.o.r (k:=1) H;have htd:xj W p b g' (av (if L=1 then some ⟨V,tof,none⟩else some ⟨V,tof+1,none⟩) (rs.length-1) (L-1)) (rs.drop 1):=⟨hdr,λa n c e=>by
        have hk:=HTW.o.f ⟨V,tof,none⟩ _ _ rfl;simp only[bG]at e;have:a.block=V:=by
         have:=e.1;split at this<;>(simp only[bA]at this;rw[<-this])
        rw[this];exact hk⟩
       obtain⟨AD,Ty⟩:∃AD,(if L=1 then some (⟨V,tof,none⟩:Addr)else some ⟨V,tof+1,none⟩)=AD:=⟨_,rfl⟩
       rw[Ty]at htd;have htf:∀a k c,Value.slice AD (rs.length-1) (L-1)=av (some a) k c->a.block<w.heap.size:=λa k c e=>by
        have hk:=(Wp.o.f ⟨V,tof,none⟩ _ _ rfl).1;simp only[bG]at e;have h2:=e.1;rw[<-Ty]at h2;split at h2<;>(simp only[bA]at h2;rw[<-h2];exact hk)
       have⟨HTF,HTD,aaG⟩:=aX htf htd I;clear hdr htd I htf;go_wp2_with fail
       go_meet;exact⟨by rw[<-Zb.o,aaG.o],by rw[Wm.o];exact HTD.o,HTF.o,rfl⟩
     case rest=>
      obtain⟨rfl,htr,htf,rfl⟩:=hcut;have hi0:vt n FIN w q p b g ms ms.length u1 () W:=by
       have N:=ke.o;have hsr:=HS.o.rest;have hmk:=HMK.o;have hrt:=zH rs;have hrl2:(ew rs).length<=rs.length:=by unfold ew;split<;>simp
       exact⟨(ew rs).length,⟨st.nodes++ [⟨false,[]⟩],st.keys++ [K]⟩,ew rs,[],g',av a2 (ms.length+1) c2,ms++ [SA],none,by rw[HK.o];exact N.symm,aP _,hsr.1,hsr.2,λy E=>HL.o y (T3 E),by simp;omega,by omega,htr,Seg.nil _ _ _,by simp;omega,by simp,by simp,HWB.o,by simp[HMN.o,SA],HGW.o,XJ.o,by simp;omega,ql,htf,λm hm x B=>by
        obtain hm|hm:=List.mem_append.1 hm
        .exact .inl ⟨m,hm,B⟩
        .rw[List.mem_singleton.1 hm]at B;cases B⟩
      have HI0:=au (show Nonempty (vt n FIN w q p b g ms ms.length u1 () W)from⟨hi0⟩);clear hi0 htr htf c0 h00 H htb;go_wp2_with fail
      go_loopw [1,10] (λv1 v10 wr=>Nonempty (vt n FIN w q p b g ms ms.length v1 v10 wr)) (λv1 _ _=>Zo v1)
      case atStart=>exact HI0.o
      case round=>
       obtain⟨hi⟩:=hrel;obtain⟨m,st1,d,es,gr,vr,J,eg,hf1,hm1,aaJ,ne1,Un,cnt1,Wo,Zn,ed1,el1,e1,e2,Y,mn1,g1,c1,n1,qs,tf1,e3⟩:=hi;have TX1:=au Zn;obtain⟨ra,rc,rfl,_,hrc,Uo⟩:=Zn.r;obtain⟨ea,ec,rfl,_⟩:=ed1.len;by_cases h0:0<d.length
       .obtain⟨rb,rof,rfl,hrb,h⟩:=TX1.o.r.slot 0 h0
        have k0:=h 0 _ rfl;simp only[Nat.zero_mul,bM]at k0;have⟨x,B⟩:=aD (d.getD 0 ());rw[<-B]at k0;have Z:∃l,d=x::l:=by
         cases d with
         |nil=>simp at h0
         |cons y l=>exact⟨l,by rw[B];rfl⟩
        obtain⟨l,Z⟩:=Z;have hxne:=ne1 x (by rw[Z];simp);have aoo:x.length<=tb d:=by rw[Z,pM];omega
        have⟨z1,z2⟩:=tY hxne;have hfc:=aaw ⟨x.toArray⟩ wr (by show x.toArray.size<=maxLen;simp[maxLen];omega);have e0:(⟨x.toArray⟩:ByteArray).data.toList=x:=by simp
        rw[e0]at hfc;have⟨HFC,HXL,HXN⟩:=aX hfc Z hxne;have hG0:1<=jN (jE x) d:=by rw[Z];exact tZ x l
        have hG1:=M3 (jE x) d;have⟨HGN,sB⟩:=aK (λ(k:Nat) h1 h2=>JH (p:=jE x) (l:=d) (k:=k) h1 h2) (show dR x d=(d.take (jN (jE x) d)).map (·.drop (fV x).2)from rfl);have⟨G,hG⟩:=aD (jN (jE x) d);rw[<-hG]at HGN hG0 hG1 sB;have HG:=au hG;have⟨sz,hsz⟩:=aD ((fV x).2);rw[<-hsz]at HFC sB z1 z2;have⟨HSZ,HE,HE1,HE2,C,aiE⟩:=eC hsz ed1 e1 e2 Y mn1;have⟨aiF,aiG,HSR,aiH,aeu,Zk⟩:=eC g1 c1 aaJ ne1 Un hf1;have⟨aiI,HE3⟩:=aK tf1 e3;have Zn:=trivial;clear h Uo B Z hxne hfc e0 hG hsz ed1 e1 e2 Y mn1 g1 c1 aaJ ne1 Un hf1 Zn tf1 e3;go_wp2_with fail
        refine aN HFC.o ?_;intro y E;obtain⟨wo,rfl⟩:= @aD ae wr;have HY:=au E;have hry:∀z,ai y y z->aT t_ 1 z (av (some ⟨rb,rof,none⟩) d.length rc) d:=λz hz=>(TX1.o.r.below E).below hz
        have HRY:=au hry;have⟨F,hF⟩:= @aD (Nat->List er) (λk=>(d.take k).map (·.drop sz));have MO:=au (show F 0=[]by rw[hF];simp);have TI:=au (show∀k,k<d.length->F (k+1)=F k++ [(d.getD k ()).drop sz]fromλk hk=>by
         rw[hF];simp only;rw[List.take_add_one,gF];simp[aU,hk])
        have⟨HFG,I1⟩:=aK (show F G=dR x d by rw[hF,sB.o]) (show∀k,k<=d.length->(F k).length=k fromλk hk=>by rw[hF];simp;omega);clear E k0 hry hF;go_wp2_with fail
        go_loopw [13,14] (λv13 v14 wz=>∃k:Nat,v13=an ar k/\k<=G/\nK y wz v14 (F k)/\ai y y wz) (λv13 _ _=>d.length-(intOf v13).toNat)
        case atStart=>exact⟨0,rfl,bz _,by rw[MO.o];exact Own.nil _ _ _ _,aO _ _⟩
        case round=>
         obtain⟨k,rfl,hk,P,hyz⟩:=hrel;have hFL:=I1.o k (by omega);obtain⟨ba,bc,rfl,_⟩:=P.len;rw[hFL]at P⊢;have⟨HB',HYZ⟩:=aK (show Own y 9 1 wr (av ba k bc) ((F k).flatMap t_) k by unfold nK at P;rw[hFL]at P;exact P) hyz;clear P hyz hFL;go_upto_region 16 with fail
         go_cut [95] (λv wz=>v=aw (decide (k<G))/\∃nq,wz=wr.drewN nq)
         case first=>
          by_cases hlt:k<d.length
          .have⟨rb',aiL,he,aiM,h⟩:=(HRY.o wr HYZ.o).slot k hlt
           have⟨_,_,he2,aos,hcell2⟩:=(HRY.o wr HYZ.o).slot 0 h0;simp only[bA,dr,et]at he he2;obtain⟨rfl,rfl⟩:=he;obtain⟨rfl,rfl⟩:=he2;have r0:=hcell2 0 _ rfl;have r1:=h 0 _ rfl;simp only[Nat.zero_mul,bM,Nat.mul_one]at r0 r1;have hx0:d.getD 0 ()=x:=by rw[HXL.o];rfl
           rw[hx0]at r0;have⟨X,hX⟩:= @aD ByteArray (⟨x.toArray⟩);have⟨RK,O⟩:= @aD ByteArray (⟨(d.getD k ()).toArray⟩);rw[<-hX]at r0;rw[<-O]at r1;have hxs:(sz:Int)<=(X.size:Int):=by rw[hX];show(sz:Int)<=((x.toArray.size:Nat):Int);simp;omega
           have hpd:(X.extract 0 sz).data.toList=jE x:=by rw[hX,HSZ.o];simp[ByteArray.data_extract,jE]
           obtain⟨PX,hPX⟩:∃PX,X.extract 0 sz=PX:=⟨_,rfl⟩
           have HP:=au (λn=>Xq RK PX (wr.drewN n));have hv:Lib.hasPrefix RK.data.toList PX.data.toList=decide (k<G):=by rw[<-hPX,hpd,O];exact HGN.o k hk hlt
           rw[hv]at HP;have q1:(0:Int)<=(k:Int):=by omega
           have q2:(k:Int)<(d.length:Int):=by omega
           have q4:(0:Int)<=(sz:Int):=by omega
           clear h hcell2 hx0 hX O hpd hv;go_quiet ((go_at_call 187;exact de (HP.o _)));go_wp2_with fail
           go_meet;exact⟨rfl,_,rfl⟩
          .have hkG:decide (k<G)=false:=by simp;omega
           have HKG:=au hkG;have q2:¬(k:Int)<(d.length:Int):=by omega
           clear hkG;go_region
           go_wp2_with fail
           go_meet;exact⟨by rw[HKG.o],1,rfl⟩
         case rest=>
          obtain⟨rfl,nq,rfl⟩:=hcut;have⟨z,hzz⟩:=aD (wr.drewN nq);have hwz:ai wr wr z:=by rw[hzz];exact(bo wr nq).aJ
          have XK:=au (HYZ.o.trans (hwz.mono HYZ.o.size));have hbz:nK y z (av ba k bc) (F k):=by unfold nK;rw[I1.o k (by omega)];exact Own.below (w':=z) HB'.o hwz
          rw[<-hzz];clear hzz hwz;by_cases hkG:k<G
          .have hlt:k<d.length:=by omega
           have⟨rb',aiL,he,aiM,h⟩:=(HRY.o z XK.o).slot k hlt;simp only[bA,dr,et]at he;obtain⟨rfl,rfl⟩:=he;have r1:=h 0 _ rfl;simp only[bM,Nat.mul_one]at r1;have⟨RK,O⟩:= @aD ByteArray (⟨(d.getD k ()).toArray⟩);rw[<-O]at r1;have hpf:Lib.hasPrefix (d.getD k ()) (jE x)=true:=by rw[HGN.o k hk hlt];exact decide_eq_true hkG
           have hrs:(sz:Int)<=(RK.size:Int):=by
            have e:=congrArg List.length (AE hpf);rw[bF,zF HXN.o]at e;rw[O,HSZ.o]
            show((fV x).2:Int)<=(((d.getD k ()).toArray.size:Nat):Int)
            simp only[List.size_toArray];omega
           have hdk:RK.extract sz RK.size=⟨((d.getD k ()).drop sz).toArray⟩:=by
            rw[O];apply ByteArray.ext;simp only[ByteArray.data_extract,List.extract_toArray,List.extract_eq_take_drop];congr 1
            show List.take ((d.getD k ()).toArray.size-sz) _=_
            simp only[List.size_toArray];rw[jY (by simp)]
           have⟨a3,c3,z3,A,hi3,hb3⟩:=nK.push hbz ((d.getD k ()).drop sz) (by rw[I1.o k (by omega)];omega) XK.o.size;rw[<-TI.o k hlt]at hi3;rw[I1.o k (by omega)]at A hi3;have⟨DK,hDK⟩:= @aD ByteArray (⟨((d.getD k ()).drop sz).toArray⟩);rw[<-hDK]at hdk A;have⟨M,HI3,HB3⟩:=aX A hi3 (XK.o.trans hb3);have q1:(0:Int)<=(k:Int):=by omega
           have q2:(k:Int)<(d.length:Int):=by omega
           have q4:(0:Int)<=(sz:Int):=by omega
           clear h O hpf A hi3 hb3 hDK;go_wp2_with (refine cE (by rfl) (.tmp 96) (.tmp 103) 22 (by rfl) _ _ _ z3 (by rfl) (by rfl) (M.o _) ?_);go_roundw
           case rel=>exact⟨k+1,by simp,by omega,HI3.o,HB3.o⟩
           case measure=>simp[intOf];omega
          .obtain rfl:k=G:=by omega
           have hBw:=HY.o.trans (XK.o.mono HY.o.size);rw[HFG.o]at hbz;have hbg:=C.o.bH (ch hBw) (by simp);have hbk:(dR x d).length=k:=by rw[<-HFG.o];exact I1.o k hG1
           have⟨bb,aou,aov,hbv,hbB,hbl,_⟩:=Own.cell (show Own y 9 1 z (av ba k bc) _ _ from hbz) (by decide) 0 (by omega);have aaK:=λx B=>C.o.gr.s.lt x B
           have htb:xj z p b gr (av ba k bc) (dR x d):=⟨hbz.reads,λa n c e=>by
            rw[hbv]at e;simp only[bG,bA]at e;obtain⟨rfl,_⟩:=e;have h1:=C.o.o1;have h2:=C.o.o2;have h3:=az C.o.bq;have h4:=HY.o.size;refine⟨hbl,by show bb≠p;omega,by show bb≠b;omega,λe=> ?_⟩;have:=aaK _ e;simp only at this;omega⟩
           have hbne:dR x d≠[]:=by intro e;rw[e]at hbk;simp at hbk;omega
           have aew:=qX (l:=d) HXN.o;rw[<-HG.o]at aew;have htk:tb (d.take k)<=tb d:=by
            have e:tb d=tb (d.take k)+tb (d.drop k):=by rw[<-AF,mE]
            omega
           have⟨JY,HZ,aiO⟩:=aX (HIH.o z st1 (dR x d) (av ba k bc) q p b gr vr J (nf HSR.o HXN.o) hbne (QC HXN.o aeu.o) (by omega) (by omega) htb hbg aiE.o) hBw aaK;obtain⟨AD,Ty⟩:∃AD,(if rc=k then some (⟨rb,rof,none⟩:Addr)else some ⟨rb,rof+k,none⟩)=AD:=⟨_,rfl⟩
           have q1:(0:Int)<=(k:Int):=by omega
           have q2:(k:Int)<=(d.length:Int):=by omega
           clear hkG hbz hBw hbg hbk hbv htb hbne aew htk aaK;go_wp2_with fail
           refine JY.m ?_;rintro e z' ⟨g2,v2,ms2,rfl,hb2,XI,hg2,hc2,he2⟩;have hseg:Seg z' 303 2 eg (av ea es.length ec) (rO es) es.length:=by
            refine(HE.o.bH (ch HZ.o) (by simp)).bH hc2 λx B=> ?_
            have⟨k1,k2⟩:=HE1.o x B;have h1:=C.o.o1;have h2:=C.o.o2;simp only[bQ,eZ,not_or];exact⟨by omega,by omega,k2⟩
           have⟨a',c',t,eg',A,hs,hct,hge⟩:=hseg.edge ((fV x).1:Int) ((dS n st1 (dR x d)).2:Int) (by omega);have Zq:=au (vt.next (t:=t) (z:=z) Zk.o hm1 HSR.o aiH.o aeu.o cnt1 Wo TX1.o el1 HE1.o HE2.o aiF.o aiG.o n1 qs (aiI.o _ _ _ rfl) HE3.o aiO.o (λx B=>HE.o.lt x B) HXL.o HG.o HZ.o hb2 XI hg2 hc2 he2 hs hct hge hrc);rw[Ty]at Zq;have M:=au A;clear hb2 XI hg2 hc2 he2 hseg A hs hct hge;generalize(dS n st1 (dR x d)).2=tt at*;go_wp2_with (refine cE (by rfl) (.tmp 110) (.tmp 116) 271 (by rfl) _ _ _ t (by rfl) (by rfl) (M.o _) ?_);go_roundw
           case rel=>exact Zq.o
           case measure=>simp[Zo];omega
       .have hr0:d=[]:=List.length_eq_zero_iff.1 (by omega)
        have N:FIN=(st1,es):=by
         rw[<-hf1,hr0];cases m<;>simp[dz]
        have aiP:J.length=st1.nodes.length:=by rw[<-mn1,cr]
        have hkm:ms.length<J.length:=by omega
        obtain⟨gb,go',gc,rfl,rfl,hgl,hcl⟩:=Y.gr.s.cell (by decide) ms.length hkm;have hold:∀j,j<2->∃u,(xM J)[ms.length*2+j]? =some u:=λj hj=>by
         have:ms.length*2+j<(xM J).length:=by rw[Xy];omega
         exact⟨_,jZ this⟩
        have⟨u0,hu0⟩:=hold 0 (by decide);have⟨u1',hu1⟩:=hold 1 (by decide);have⟨o0,f0⟩:=hcl 0 u0 (by decide) hu0;have⟨o1',f1⟩:=hcl 1 u1' (by decide) hu1;simp only[bM]at o0 f0;have egq:∀x,eg=some x->q<x/\x≠gb:=λx B=>by
         have⟨k1,k2⟩:=e1 x B;exact⟨by omega,λe=>k2 (by rw[e])⟩
        have⟨hfl,hfc⟩:=Y.fill ms.length hkm (tX rs) ed1 egq;have cq:wr.cell? q=p:=by have:=Y.bq;simp[World.cell?,this]
        have cp:wr.cell? p=some (av (some ⟨gb,go',none⟩) J.length gc):=by have:=Y.gr.c;simp[World.cell?,this]
        have hpost:AP (n+1) st rs q p b g ms w (ax (ms.length:Int)) ((wr.setCell ⟨gb,go'+ms.length*2,none⟩ (aw (tX rs))).setCell ⟨gb,go'+ms.length*2+1,none⟩ (av ea es.length ec)):=by
         refine JX (g':=some gb) (v':=av (some ⟨gb,go',none⟩) J.length gc) (ms':=J.set ms.length ⟨⟨tX rs,es⟩,av ea es.length ec,eg⟩) (by rw[Q.o,HMK.o]) (by rw[Q.o,N];exact hfl) ?_ g1 (c1.wide hfc λx B=> ?_) λm hm x B=> ?_
         .rw[Q.o,N,List.map_set,mn1,HMK.o]
         .have hx':x=gb:=by simpa using B
          subst hx';obtain e|⟨y,e,E⟩:=g1
          .exact .inl (by rw[<-e];simp)
          .simp only[bA]at e
           subst e;exact .inr E
         .obtain hm|rfl:=jC hm
          .exact e3 m hm x B
          .exact .inr (e1 x B).1
        have aey:=au hpost;have q1:(0:Int)<=(ms.length:Int):=by omega
        have q2:(ms.length:Int)<(J.length:Int):=by omega
        have h00:¬(0:Int)<(d.length:Int):=by omega
        clear hf1 aaJ ne1 Un Zn ed1 e1 e2 Y mn1 g1 c1 tf1 e3 hr0 N aiP hcl hold hu0 hu1 egq hfl hfc hpost h0 Uo;go_wp2;go_ret;exact aey.o
end Go.Proofs.YtjpnlfpompnpkaaGreat
