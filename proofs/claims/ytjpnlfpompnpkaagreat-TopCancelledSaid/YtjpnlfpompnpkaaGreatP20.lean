import Derived.Test.YtjpnlfpompnpkaaGreatP16
import Derived.Test.YtjpnlfpompnpkaaGreatP17
namespace Go.Proofs.YtjpnlfpompnpkaaGreat
open Go.RowKit Go.Proofs.Tryz
open Go.Value renaming int->an,slice->av,bool->aw,string->aA,tuple->aM,pointer->aL,agg->aG
open Go.IntKind renaming i64->ar
open Go.Ending renaming returned->ax
open Go.Obj renaming cells->aB
open Go renaming World->ae,Value->ah,Calls->aj,Ending->ak
open Go.RowKit renaming Below->ai
set_option maxRecDepth 100000
set_option linter.all false
set_option maxHeartbeats 4000000
open Go.ChangeMaps mX
variable{P:Tg->Prop}{τ br:cj}{w w':ae}
def EJ(τ:cj)(w:ae)(v:ah):Option (List gO)->Prop
 |none=>v=aL none
 |some ns=>∃p g gv ms,v=aL (some ⟨p,0,none⟩)/\jm w p g gv ms/\ms.map dP.n=ns/\Kf ns/\∀x∈pO p g ms,τ x=.keep
variable{o:Option (List gO)}
def EJ.v{v:ah}(h:EJ τ w v o):GrV w v o:=by
 cases o with
 |none=>exact h
 |some j=>obtain⟨p,g,a,b,c,d,e,f,_⟩:=h;exact⟨p,g,a,b,c,d,e,f⟩
def EJ.fr{v:ah}(h:EJ τ w v o)(f:Fr P τ br w w')(c:¬P .keep):EJ br w' v o:=by
 cases o with
 |none=>exact h
 |some n=>
  obtain⟨p,g,d,e,j,a,k,l,b⟩:=h;exact⟨p,g,d,e,j,a.kept (f.kept a.lt λx m=>by rw[b x m];exact c),k,l,f.tags a.lt b⟩
def EJ.new{B:Nat}{v:ah}(h:GrO B w v o)(a:∀ns,o=some ns->Kf ns):EJ (eP τ B .keep) w v o:=by
 cases o with
 |none=>exact h
 |some ns=>
  obtain⟨p,b,g,c,d,e,f,l,j⟩:=h;exact⟨p,g,c,d,b,e,f,a ns rfl,λx k=>d_ (by have:=j x k;omega)⟩
def EJ.ptr{v:ah}(h:EJ τ w v o):∃a,v=aL a/\(a.isSome=o.isSome):=by
 cases o with
 |none=>exact⟨none,h,rfl⟩
 |some c=>obtain⟨p,_,_,_,b,_⟩:=h;exact⟨_,b,rfl⟩
abbrev sgZ:ah:=.agg #[.pointer none,.int .i64 0]
def NA(τ:cj)(w:ae)(o:Option ah):Option SB->Prop
 |none=>o=none
 |some x=>∃pv,o=some (aG #[pv,x.e])/\EJ τ w pv x.g
structure ow(τ:cj)(w:ae)(i sb:Nat)(QU:List SB):Prop where
 m:∃F n,je sgZ w sb F n/\n<=QU.length/\∀s,NA τ w (F s) (QU.find? (·.s==s))
 t:τ sb=.JR i
variable{i:Nat}
def ow.lt{sb:Nat}{a:List SB}(h:ow τ w i sb a):sb<w:=by have⟨F,n,b,_⟩:=h.m;exact b.lt
def NA.fr{v:Option ah}{o:Option SB}(h:NA τ w v o)(f:Fr P τ br w w')(a:¬P .keep):NA br w' v o:=by
 cases o with
 |none=>exact h
 |some x=>obtain⟨b,c,d⟩:=h;exact⟨b,c,d.fr f a⟩
def ow.fr{sb:Nat}{a:List SB}(h:ow τ w i sb a)(f:Fr P τ br w w')(c:¬P (.JR i))(d:¬P .keep):ow br w' i sb a:=by
 have b:=h.lt;have⟨F,n,e,g,j⟩:=h.m;exact⟨⟨F,n,e.same (f.block sb b (by rw[h.t];exact c)),g,λs=>(j s).fr f d⟩,(f.old sb b).trans h.t⟩
def ow.made(y:ae)(t:ae)(h:aQ ([]:List Nat) (y.alloc (.map #[] 0)) t)(a:τ y=.JR i):ow τ t i y []:=
 ⟨⟨_,_,(je.made sgZ y).bH h (by simp),by simp,λs=>by simp[NA]⟩,a⟩
def ow.snoc{sb:Nat}{a:List SB}(h:ow τ w i sb a){z:ae}(q:aQ ([]:List Nat) w z){x:SB}{b:ah}{B:Nat}(O:w.heap.size<=B)(c:GrO B z b x.g)(hd:∀ns,x.g=some ns->Kf ns)(f:ld x.s)(Q:a.length<1000)(A:∀y∈a,y.s≠x.s):
 ∃t,(Instr.mapUpdate 98 (.map (some sb)) x.s (aG #[b,x.e])).run prog z=.ok () t/\ow (eP τ w .keep) t i sb (a++ [x])/\aQ [sb] z t:=by
 have r:=h.lt;have⟨F,n,C,T,E⟩:=h.m;have⟨t,G,H,u⟩:=(C.bH q (by simp)).store (t:=98) underlying98 (by omega) f (.agg #[b,x.e]);have j:Fr (λ_=>False) τ (eP τ w .keep) w z:=Fr.dC q (by simp) _;have k:EJ (eP τ w .keep) z b x.g:=by
  have v:=EJ.new (τ:=τ) c hd;cases ho:x.g with
  |none=>rw[ho]at c;exact c
  |some ns=>
   rw[ho]at c;obtain⟨p,v,g,I,J,K,L,U,M⟩:=c;exact⟨p,g,I,J,v,K,L,hd ns ho,λx f=>d_ (by have:=M x f;omega)⟩
 have d:Fr (·=.JR i) (eP τ w .keep) (eP τ w .keep) z t:=Fr.fm u (by simp[dZ r,h.t]);refine⟨t,G,⟨⟨_,_,H,?_,λs=> ?_⟩,(dZ r).trans h.t⟩,u⟩
 .rw[bF,List.length_singleton]
  split<;>omega
 .rw[List.find?_append]
  by_cases e:s=x.s
  .subst e
   have l:a.find? (·.s==x.s)=none:=by
    rw[List.find?_eq_none];intro y N;simpa using A y N
   rw[l,aI rfl];simp only[Option.none_or,List.find?_cons,beq_self_eq_true];exact⟨b,rfl,k.fr d (by simp)⟩
  .rw[aC e]
   have l: [x].find? (·.s==s)=none:=by
    rw[jg (by simpa usingλh:x.s=s=>e h.symm)];rfl
   rw[l,Option.or_none];exact((E s).fr j (λh=>h)).fr d (by simp)
structure CT where
 bx:Nat
 kv:ah
 kg:Option Nat
 dp:Nat
 db:Nat
 cN:List jB
 sb:Nat
 qp:Nat
 qb:Nat
 qg:Option Nat
def e_(i:Nat)(t:Tg):Prop:=t=.M7 i∨iP i t∨t=.CM i∨t=.JR i
def nj(i:Nat):¬e_ i .keep:=by simp[e_,iP]
def jS(cN:List jB):List Int:=cN.map λm=>m.v.s
structure fM(τ:cj)(w:ae)(i:Nat)(m:CT)(v:gL):Prop where
 c:w.heap[m.bx]? =some (aB #[an ar v.id,an ar v.aW,aw v.up,m.kv,m.dp,.map (some m.sb),m.qp] 101 (0,0))
 k:Seg w 3 1 m.kg m.kv ((jS m.cN).flatMap dX) (jS m.cN).length
 d:kV τ w i m.dp m.db v.life m.cN
 iv:m.cN.map jB.v=v.cN
 ln:m.cN.length<=1000
 s:ow τ w i m.sb v.QU
 q:pA w m.qp m.qb m.qg v.q
 tb:τ m.bx=.M7 i
 tk:∀b,m.kg=some b->τ b=.keep
 t1:τ m.qp=.CM i
 t2:τ m.qb=.CM i
 t3:∀b,m.qg=some b->τ b=.CM i
def pA.kept'{p b:Nat}{g:Option Nat}{L:List cf}(h:pA w p b g L)(a:w'.heap[p]? =w.heap[p]?)(c:w'.heap[b]? =w.heap[b]?)(d:∀x,g=some x->w'.heap[x]? =w.heap[x]?):pA w' p b g L:=by
 obtain⟨v,e,f,j,r⟩:=h;exact⟨v,a.trans e,f.kept λx k=>d x (by simpa using k),j.same c,r⟩
def pA.lts{p b:Nat}{g:Option Nat}{L:List cf}(h:pA w p b g L):p<w/\b<w/\∀x,g=some x->x<w.heap.size:=by
 obtain⟨v,a,c,d,r⟩:=h;exact⟨az a,d.lt,λx e=>c.lt x e⟩
def fM.fr{m:CT}{v:gL}(h:fM τ w i m v)(f:Fr P τ br w w')(a:∀t,e_ i t->¬P t)(e:¬P .keep):fM br w' i m v:=by
 have⟨u,y⟩:=h.k.fr f h.tk e;have⟨j,l,n⟩:=h.q.lts;have g:=a _ (.inr (.inr (.inl rfl)));exact⟨f.at h.c (by rw[h.tb];exact a _ (.inl rfl)),u,h.d.fr f (λt z=>a t (.inr (.inl z))) e,h.iv,h.ln,h.s.fr f (a _ (.inr (.inr (.inr rfl)))) e,
  h.q.kept' (f.block _ j (by rw[h.t1];exact g)) (f.block _ l (by rw[h.t2];exact g)) (λx p=>f.block _ (n x p) (by rw[h.t3 x p];exact g)),
  (f.old _ (az h.c)).trans h.tb,y,(f.old _ j).trans h.t1,(f.old _ l).trans h.t2,λb r=>(f.old _ (n b r)).trans (h.t3 b r)⟩
structure PF(τ:cj)(w:ae)(i bx:Nat)(kv:ah)(kg:Option Nat)(dp db:Nat)(cN:List jB)(id e0 life:Int)(u0:Bool)(v5 v6:ah):Prop where
 c:w.heap[bx]? =some (aB #[an ar id,an ar e0,aw u0,kv,dp,v5,v6] 101 (0,0))
 k:Seg w 3 1 kg kv ((jS cN).flatMap dX) (jS cN).length
 d:kV τ w i dp db life cN
 ln:cN.length<=1000
 tb:τ bx=.M7 i
 tk:∀b,kg=some b->τ b=.keep
def Ru(i bx:Nat)(kv:ah)(kg:Option Nat)(dp db:Nat)(cN:List jB)(id life:Int)(τ:cj)(w:ae)(e:ak)(w':ae):Prop:=
 ∃br sb qp qb,e=ax (aM #[])/\fM br w' i ⟨bx,kv,kg,dp,db,cN,sb,qp,qb,none⟩ (oI ⟨id,0,life,false,cN.map jB.v,[],[]⟩)/\Fr (e_ i) τ br w w'
def abB(m:jB):SB:=⟨m.v.s,(iz m.v.now).1,(iz m.v.now).2⟩
section
open Go.ChangeMaps mX
variable{P:Tg->Prop}{τ br:cj}{w w':ae}{c:aV}
structure YC(τ:cj)(w:ae)(p:Nat)(most next:Int)(L:List GV):Prop where
 a:∃g v Ms,sw w p g v most next Ms/\Ms.map GM.g=L/\∀x∈dG p g Ms,τ x=.net
def YC.fr{p:Nat}{b next:Int}{L:List GV}(h:YC τ w p b next L)(f:Fr P τ br w w')(i:¬P .net):YC br w' p b next L:=by
 have⟨g,v,j,d,k,e⟩:=h.a;exact⟨g,v,j,d.kept (f.kept d.lt λx l=>by rw[e x l];exact i),k,f.tags d.lt e⟩
noncomputable def Kz(w:ae)(own:List Nat):List Nat:=(List.range w).filter λk=>decide (k∉own)
def vI{a:List Nat}{k:Nat}:k∈Kz w a↔k<w/\k∉a:=by simp[Kz]
open Classical in
noncomputable def zL (τ:cj) (n:Nat) (own:List Nat) (t:Tg):cj:=λq=>if q<n then τ q else if q∈own then .net else t
def YC.call{p:Nat}{d next:Int}{L:List GV}(h:YC τ w p d next L):∃i,(∀x∈i,x<w.heap.size/\τ x=.net)/\NF 0 (Kz w i) w p d next L/\
 ∀X w' b s t,NF 0 (X++Kz w i) w' p d b s->ai 0 w w'->Kept (Kz w i) w w'->∃f,YC (zL τ w f t) w' p d b s/\Fr (·=.net) τ (zL τ w f t) w w'/\(∀x∈f,x∉X)/\∀x∈f,x∈i∨w.heap.size<=x:=by
 have⟨g,v,q,B,E,u⟩:=h.a;refine⟨dG p g q,λx j=>⟨B.lt x j,u x j⟩,⟨g,v,q,B,E,λ_ _=>bz _,bz _,λx j=>vI.1 j⟩,λX w' b s t F r y=> ?_⟩;obtain⟨z,G,m,H,I,_,_,C⟩:=F;have l:∀x∈dG p z m,x∈dG p g q∨w.heap.size<=x:=λx j=>by
  by_cases J:x<w.heap.size
  .left
   by_cases n:x∈dG p g q
   .exact n
   .exact bL j (C x (List.mem_append_right _ (vI.2 ⟨J,n⟩))).2
  .exact .inr (by omega)
 refine⟨dG p z m,⟨z,G,m,H,I,λx j=> ?_⟩,⟨r.os,r.tape,r.output,r.size,λk y=>by unfold zL;rw[aI y],λk o A=>y k (vI.2 ⟨o,λe=>A (u k e)⟩)⟩,λx j e=>(C x (List.mem_append_left _ e)).2 j,l⟩
 .unfold zL
  split
  .rename_i o
   obtain n|n:=l x j
   .exact u x n
   .omega
  .simp[j]
def iE(s:Int×Int×Int):List ah:=[an ar s.1,an ar s.2.1,an ar s.2.2]
def cO.cells(e:cO):List ah:=[an ar e.kind,an ar e.node,an ar e.at',an ar e.x,aA e.text,an ar e.k,an ar e.n]
def cO.val(e:cO):ah:=aG #[an ar e.kind,an ar e.node,an ar e.at',an ar e.x,aG #[aA e.text,e.k,(e.n:Int)]]
structure RcM where
 r:cS
 sv:ah
 sg:Option Nat
 lv:ah
 lg:Option Nat
instance:Inhabited RcM:=⟨⟨default,.slice none 0 0,none,.slice none 0 0,none⟩⟩
def RcM.cells(m:RcM):List ah:=m.r.ev.cells++ [an ar m.r.verdict,an ar m.r.id,m.sv,an ar m.r.got,m.lv]
structure KA(τ:cj)(w:ae)(k:Nat)(m:RcM):Prop where
 s:Seg w 56 3 m.sg m.sv (m.r.sent.flatMap iE) m.r.sent.length
 l:Seg w 3 1 m.lg m.lv (m.r.lost.flatMap dX) m.r.lost.length
 ts:∀b,m.sg=some b->τ b=.rc k
 tl:∀b,m.lg=some b->τ b=.rc k
def KA.fr{k:Nat}{m:RcM}(h:KA τ w k m)(f:Fr P τ br w w')(a:¬P (.rc k)):KA br w' k m:=by
 have⟨b,d⟩:=h.s.fr f h.ts a;have⟨e,g⟩:=h.l.fr f h.tl a;exact⟨b,e,d,g⟩
structure YD(τ:cj)(w:ae)(rg:Option Nat)(rv:ah)(rs:List RcM):Prop where
 s:Seg w 45 12 rg rv (rs.flatMap RcM.cells) rs.length
 r:∀k (hk:k<rs.length),KA τ w k (rs[k])
 t:∀b,rg=some b->τ b=.recs
def YD.fr{rg:Option Nat}{a:ah}{rs:List RcM}(h:YD τ w rg a rs)(f:Fr P τ br w w')(d:¬P .recs)(e:∀k,k<rs.length->¬P (.rc k)):YD br w' rg a rs:=by
 have⟨g,i⟩:=h.s.fr f h.t d;exact⟨g,λk b=>(h.r k b).fr f (e k b),i⟩
structure I3 where
 xb:Nat
 co:jG
 ws:List CT
 nv:ah
 ng:Option Nat
 np:Nat
 rv:ah
 rg:Option Nat
 rs:List RcM
def vJ(m:I3):List ah:=.iface 124 (aG #[m.co.cb])::m.ws.map λx=>.iface 93 (aG #[x.bx])
structure lx(c:aV)(τ:cj)(w:ae)(m:I3)(x:di)(rs:List cS):Prop where
 bx:w.heap[m.xb]? =some (aB #[m.co.cb,m.nv,m.np,m.rv] 90 (0,0))
 t:τ m.xb=.cl
 co:cJ c τ w m.co x.co
 wl:m.ws.length=x.ws.length
 ws:∀i (hi:i<m.ws.length),fM τ w (i+1) (m.ws[i]) (x.ws.getD i ())
 nd:Seg w 96 1 m.ng m.nv (vJ m) (m.ws.length+1)
 nt:∀b,m.ng=some b->τ b=.cl
 net:YC τ w m.np c.net x.next x.net
 rc:YD τ w m.rg m.rv m.rs
 rv:m.rs.map RcM.r=rs
def uA(n:Nat)(t:Tg):Prop:=t≠.keep/\∀k,k<n->t≠.rc k
def lx.fr{m:I3}{x:di}{rs:List cS}(h:lx c τ w m x rs)(f:Fr P τ br w w')(d:∀t,P t->t=.rc m.rs.length):lx c br w' m x rs:=by
 have a:∀t,(t≠.rc m.rs.length)->¬P t:=λt b e=>b (d t e)
 have⟨g,j⟩:=h.nd.fr f h.nt (a _ (by simp));refine⟨f.at h.bx (by rw[h.t];exact a _ (by simp)),(f.old _ (az h.bx)).trans h.t,h.co.fr f (λt b=>a t ?_) (a _ (by simp)),h.wl,λi l=>(h.ws i l).fr f (λt b=>a t ?_) (a _ (by simp)),g,j,h.net.fr f (a _ (by simp)),h.rc.fr f (a _ (by simp)) (λk n=>a _ (by simp;omega)),h.rv⟩
 .rintro rfl;simp[dB]at b
 .rintro rfl;simp[e_,iP]at b
end
variable{c:aV}
structure sZ(τ:cj)(w:ae)(k rb:Nat)(m:RcM):Prop where
 bx:w.heap[rb]? =some (aB m.cells.toArray 45 (0,0))
 t:τ rb=.rc k
 a:KA τ w k m
variable{k:Nat}{m:RcM}
def sZ.fr{b:Nat}(h:sZ τ w k b m)(f:Fr P τ br w w')(d:¬P (.rc k)):sZ br w' k b m:=
 ⟨f.at h.bx (by rw[h.t];exact d),(f.old _ (az h.bx)).trans h.t,h.a.fr f d⟩
def sZ.put{d:Nat}(h:sZ τ w k d m)(j:Nat)(u:ah)(m':RcM)(p:m'.cells=m.cells.set j u)(q:m'.sv=m.sv)(n:m'.sg=m.sg)(v:m'.lv=m.lv)(o:m'.lg=m.lg)(x:m'.r.sent=m.r.sent)(y:m'.r.lost=m.r.lost):
 sZ τ (w.setCell ⟨d,j,none⟩ u) k d m'/\Fr (·=.rc k) τ τ w (w.setCell ⟨d,j,none⟩ u):=by
 have f:aQ [d] w (w.setCell ⟨d,j,none⟩ u):=(aQ.refl _ _).setCell _ (by simp) _;have z:Fr (·=.rc k) τ τ w (w.setCell ⟨d,j,none⟩ u):=Fr.fm f (by simpa using h.t);have A:∀b,m.sg=some b->b∉[d]:=λb g e=>by
  simp only[cm]at e;subst e;exact jH h.a.s h.bx (by decide) g
 have B:∀b,m.lg=some b->b∉[d]:=λb g e=>by
  simp only[cm]at e;subst e;exact jH h.a.l h.bx (by decide) g
 refine⟨⟨?_,h.t,?_,?_,?_,?_⟩,z⟩
 .rw[p]
  simpa using aE (i:=j) h.bx u
 .rw[q,n,x];exact h.a.s.bH f A
 .rw[v,o,y];exact h.a.l.bH f B
 .rw[n];exact h.a.ts
 .rw[o];exact h.a.tl
def EK:(prog.info? 56).map (λi=>(i.zero,i.size,i.bytes))=some (some (aG #[an ar 0,an ar 0,an ar 0]),3,24):=by kernel_rfl
def RcM.YE(m:RcM)(id:Int)(v:ah)(g:Option Nat):RcM:=⟨{m.r with lost:=m.r.lost++ [id]},m.sv,m.sg,v,g⟩
def RcM.send(m:RcM)(s:Int×Int×Int)(v:ah)(g:Option Nat):RcM:=⟨{m.r with sent:=m.r.sent++ [s]},v,g,m.lv,m.lg⟩
def sZ.YE{f:Nat}(h:sZ τ w k f m)(id:Int)(A:m.r.lost.length<=1000000):
 ∃v' g' y,(∀B,(Builtin.append_ #[43,43] B #[m.lv,av (some ⟨w,0,none⟩) 1 1]).run prog (w.alloc (aB #[(id:Int)] 3 (0,0)))=.ok v' y)/\y.heap[f]? =w.heap[f]? /\(∃a n e,v'=av a n e)/\aQ m.lg.toList w y/\
  sZ (eP τ w (.rc k)) (y.setCell ⟨f,11,none⟩ v') k f (m.YE id v' g')/\Fr (·=.rc k) τ (eP τ w (.rc k)) w (y.setCell ⟨f,11,none⟩ v'):=by
 have⟨v',y,g',C,z,q,E⟩:=h.a.l.push 43 underlying43 tQ rfl (by decide) [an ar id] rfl (by simp[Value.oneCell']) A (by decide);have u:Fr (·=.rc k) τ (eP τ w (.rc k)) w y:=Fr.dC q (λb d=>h.a.tl b (by simpa using d)) _;have F:∀b,m.lg=some b->b≠f:=λb d e=>by subst e;exact jH h.a.l h.bx (by decide) d
 have G:∀b,m.sg=some b->b∉m.lg.toList:=λb d e=>jW h.a.l h.a.s (by decide) b d (by simpa using e)
 have j:=q.block f (az h.bx) (λe=>F f (by simpa using e) rfl);have o:=j.trans h.bx;have p:=(u.old _ (az h.bx)).trans h.t;have g:aQ [f] y (y.setCell ⟨f,11,none⟩ v'):=(aQ.refl _ _).setCell _ (by simp) _;have H:Fr (·=.rc k) (eP τ w (.rc k)) (eP τ w (.rc k)) y (y.setCell ⟨f,11,none⟩ v'):=Fr.fm g (by simpa using p);have v:=h.a.s.bH q G;have⟨J,K,I,_⟩:=z.len;refine⟨v',g',y,C,j,⟨_,_,_,I⟩,q,⟨?_,p,?_,?_,?_,?_⟩,u.trans H⟩
 .simpa[RcM.cells,RcM.YE,cO.cells]using aE (i:=11) o v'
 .exact v.bH g (λb d e=>by simp only[cm]at e;subst e;exact jH h.a.s h.bx (by decide) d)
 .have:Seg y 3 1 g' v' ((m.r.lost++ [id]).flatMap dX) (m.r.lost++ [id]).length:=by
   rw[fQ,bF];exact z
  exact this.bH g (λb d e=>by simp only[cm]at e;subst e;exact jH this o (by decide) d)
 .exactλb d=>(u.old b (h.a.s.lt b d)).trans (h.a.ts b d)
 .intro b d
  have d:g'=some b:=d;obtain e|⟨L,e,x⟩:=E
  .rw[e]at d
   exact(u.old b (h.a.l.lt b d)).trans (h.a.tl b d)
  .rw[e]at d
   simp only[bA]at d;subst d;exact d_ x
def sZ.send{f:Nat}(h:sZ τ w k f m)(s:Int×Int×Int)(A:m.r.sent.length<=1000000):
 ∃v' g' y,(∀B,(Builtin.append_ #[42,42] B #[m.sv,av (some ⟨w,0,none⟩) 1 1]).run prog (w.alloc (aB #[an ar s.1,an ar s.2.1,an ar s.2.2] 56 (0,0)))=.ok v' y)/\y.heap[f]? =w.heap[f]? /\(∃a n e,v'=av a n e)/\aQ m.sg.toList w y/\
  sZ (eP τ w (.rc k)) (y.setCell ⟨f,9,none⟩ v') k f (m.send s v' g')/\Fr (·=.rc k) τ (eP τ w (.rc k)) w (y.setCell ⟨f,9,none⟩ v'):=by
 have⟨v',y,g',C,z,q,E⟩:=h.a.s.push 42 underlying42 EK rfl (by decide) [an ar s.1,an ar s.2.1,an ar s.2.2] rfl (by simp[Value.oneCell']) A (by decide);have u:Fr (·=.rc k) τ (eP τ w (.rc k)) w y:=Fr.dC q (λb d=>h.a.ts b (by simpa using d)) _;have F:∀b,m.sg=some b->b≠f:=λb d e=>by subst e;exact jH h.a.s h.bx (by decide) d
 have G:∀b,m.lg=some b->b∉m.sg.toList:=λb d e=>jW h.a.s h.a.l (by decide) b d (by simpa using e)
 have j:=q.block f (az h.bx) (λe=>F f (by simpa using e) rfl);have o:=j.trans h.bx;have p:=(u.old _ (az h.bx)).trans h.t;have g:aQ [f] y (y.setCell ⟨f,9,none⟩ v'):=(aQ.refl _ _).setCell _ (by simp) _;have H:Fr (·=.rc k) (eP τ w (.rc k)) (eP τ w (.rc k)) y (y.setCell ⟨f,9,none⟩ v'):=Fr.fm g (by simpa using p);have v:=h.a.l.bH q G;have⟨J,K,I,_⟩:=z.len;refine⟨v',g',y,C,j,⟨_,_,_,I⟩,q,⟨?_,p,?_,?_,?_,?_⟩,u.trans H⟩
 .simpa[RcM.cells,RcM.send,cO.cells]using aE (i:=9) o v'
 .have:Seg y 56 3 g' v' ((m.r.sent++ [s]).flatMap iE) (m.r.sent++ [s]).length:=by
   rw[fQ,bF];exact z
  exact this.bH g (λb d e=>by simp only[cm]at e;subst e;exact jH this o (by decide) d)
 .exact v.bH g (λb d e=>by simp only[cm]at e;subst e;exact jH h.a.l h.bx (by decide) d)
 .intro b d
  have d:g'=some b:=d;obtain e|⟨L,e,x⟩:=E
  .rw[e]at d
   exact(u.old b (h.a.s.lt b d)).trans (h.a.ts b d)
  .rw[e]at d
   simp only[bA]at d;subst d;exact d_ x
 .exactλb d=>(u.old b (h.a.l.lt b d)).trans (h.a.tl b d)
section
open Go.ChangeMaps mX
variable{P:Tg->Prop}{τ br:cj}{w w':ae}
def NB(i:Nat)(s_:cj)(u:ae)(sb:Nat)(cN:List jB)(k:Nat)(wr:ae):Prop:=
 ∃br,ow br wr i sb ((cN.take k).map abB)/\aQ [sb] u wr/\∀q,q<u.heap.size->br q=s_ q
variable{u:ae}
def NB.next{i:Nat}{s_:cj}{sb:Nat}{cN:List jB}{k:Nat}{wr:ae}(h:NB i s_ u sb cN k wr)(c:k<cN.length)(I:cN.length<=1000)(a:(jS cN).Nodup)(o:ld (cN[k]).v.s)
 {z:ae} (d:aQ ([]:List Nat) wr z) {B:Nat} (p:wr.heap.size<=B) {f:ah} (r:GrO B z f (iz (cN[k]).v.now).1):
 ∃t,(Instr.mapUpdate 98 (.map (some sb)) (an ar (cN[k]).v.s) (aG #[f,an ar (iz (cN[k]).v.now).2])).run prog z=.ok () t/\NB i s_ u sb cN (k+1) t/\aQ [sb] z t:=by
 obtain⟨br,b,g,A⟩:=h;have⟨t,C,E,l⟩:=b.snoc d (x:=abB cN[k]) p r (λJ=>Ew) o (by simp;omega) (by
  intro y F;obtain⟨m,G,rfl⟩:=List.mem_map.1 F;have⟨j,H,e⟩:=lG G;rw[dw]at H;rw[List.getElem_take]at e;subst e;intro e;have e:(cN[j]'(by omega)).v.s=(cN[k]).v.s:=e;have b:(jS cN)[j]'(by unfold jS;simp;omega)=(jS cN)[k]'(by unfold jS;simpa using c):=by unfold jS;simpa using e
  have:=(List.getElem_inj a).1 b;omega)
 refine⟨t,C,⟨eP br wr .keep,?_,(g.trans (d.mono (by simp))).trans l,λq n=>(dZ (bP n g.size)).trans (A q n)⟩,l⟩;rw[fG c,gF];exact E
def pX(τ:cj)(i:Nat)(w1 w2:ae):cj:=eP (eP τ w1 (.CM i)) w2 (.JR i)
structure CU(i bx:Nat)(kv:ah)(kg:Option Nat)(dp db:Nat)(cN:List jB)(id life:Int)(τ:cj)(w:ae)(sb qp qb:Nat)(s_:cj)(u:ae):Prop where
 c:u.heap[bx]? =some (aB #[an ar id,an ar 0,aw true,kv,dp,.map (some sb),qp] 101 (0,0))
 k:Seg u 3 1 kg kv ((jS cN).flatMap dX) (jS cN).length
 d:kV s_ u i dp db (life+1) cN
 ln:cN.length<=1000
 s:ow s_ u i sb []
 q:pA u qp qb none []
 tb:s_ bx=.M7 i
 tk:∀b,kg=some b->s_ b=.keep
 t1:s_ qp=.CM i
 t2:s_ qb=.CM i
 f:Fr (e_ i) τ s_ w u
 ne:bx≠sb
variable{i bx:Nat}{kv:ah}{kg:Option Nat}{dp db:Nat}{cN:List jB}{id life:Int}
def CU.of{e0:Int}{u0:Bool}{E F:ah}(h:PF τ w i bx kv kg dp db cN id e0 life u0 E F){w1 w2:ae}(G:kV τ w1 i dp db (life+1) cN)(g:Fr (·=.FQ i) τ τ w w1)(B:pA w2 (w1.heap.size+1) w1 none [])(a:ai w1 w1 w2)
 (p:u=((((w2.setCell ⟨bx,2,none⟩ (aw true)).setCell ⟨bx,1,none⟩ (0:Int)).setCell ⟨bx,6,none⟩ (aL (some ⟨w1.heap.size+1,0,none⟩))).setCell ⟨bx,5,none⟩ (.map (some w2))).alloc (.map #[] 0)):
 CU i bx kv kg dp db cN id life τ w w2 (w1.heap.size+1) w1 (pX τ i w1 w2) u:=by
 have j:=az h.c;have⟨H,I,_⟩:=B.lts;have J:=g.size;have r:τ bx≠.FQ i:=by rw[h.tb];simp
 have s:=
  (a.block bx (bP j J)).trans (g.at h.c r)
 have d:aQ [bx] w2 u:=by rw[p];exact(((((aQ.refl [bx] w2).setCell _ (by simp) _).setCell _ (by simp) _).setCell _ (by simp) _).setCell _ (by simp) _).alloc _
 have v:u.heap[bx]? =some (aB #[id,an ar 0,aw true,kv,dp,.map (some w2),aL (some ⟨w1.heap.size+1,0,none⟩)] 101 (0,0)):=by
  have K:=aE (i:=2) s (aw true);have L:=aE (i:=1) K (0:Int);have M:=aE (i:=6) L (aL (some ⟨w1.heap.size+1,0,none⟩));have N:=aE (i:=5) M (.map (some w2));have O:=(aQ.refl ([]:List Nat) _|>.alloc (.map #[] 0)).at N (by simp);rw[p];simpa using O
 have f:Fr (e_ i) τ (pX τ i w1 w2) w u:=by
  refine⟨d.os.trans (a.os.trans g.os),d.tape.trans (a.tape.trans g.tape),d.output.trans (a.output.trans g.output),?_,λq l=> ?_,λq l o=> ?_⟩
  .have:=d.size;omega
  .unfold pX
   rw[dZ (by omega),dZ (by omega)]
  .have Q:q≠bx:=λe=>o (by rw[e,h.tb];exact .inl rfl)
   rw[d.block q (by omega) (by simpa using Q),a.block q (by omega),g.block q l (λe=>o (by rw[e];exact .inr (.inl (.inl rfl))))]
 have z:=λx T=>h.k.lt x T
 have m:=f.old;have A:Fr (λt=>t=.M7 i) τ (pX τ i w1 w2) w1 u:=by
  refine⟨d.os.trans a.os,d.tape.trans a.tape,d.output.trans a.output,bD a.size d.size,λq l=> ?_,λq l o=> ?_⟩
  .unfold pX
   rw[dZ (by omega),dZ l]
  .rw[d.block q (by omega) (by
    simp only[cm];intro e;exact o (by rw[e,h.tb])),a.block q (by omega)]
 refine⟨v,?_,?_,h.ln,?_,?_,(m _ j).trans h.tb,λb a=>(m _ (z b a)).trans (h.tk b a),?_,?_,f,by omega⟩
 .exact(h.k.fr f h.tk (nj i)).1
 .exact G.fr A (λt U e=>by subst e;simp[iP]at U) (by simp)
 .have⟨y,C⟩:=aD ((((w2.setCell ⟨bx,2,none⟩ (aw true)).setCell ⟨bx,1,none⟩ (0:Int)).setCell ⟨bx,6,none⟩ (aL (some ⟨w1.heap.size+1,0,none⟩))).setCell ⟨bx,5,none⟩ (.map (some w2)))
  have n:y.heap.size=w2.heap.size:=by rw[C];simp
  have:=ow.made (i:=i) (τ:=pX τ i w1 w2) y u (by rw[p,C];exact aQ.refl _ _) (by rw[n];exact d_ (aP _))
  rwa [n]at this
 .exact B.bH d (by simp;omega) (by simp;omega) (by simp)
 .unfold pX
  rw[dZ H,d_ (by omega)]
 .unfold pX
  rw[dZ I,d_ (by omega)]
def CU.fin{sb qp qb:Nat}{s_:cj}{wr:ae}(h:CU i bx kv kg dp db cN id life τ w sb qp qb s_ u)(hd:NB i s_ u sb cN cN.length wr):Ru i bx kv kg dp db cN id life τ w (ax (aM #[])) wr:=by
 obtain⟨br,l,a,g⟩:=hd;have j:Fr (·=.JR i) s_ br u wr:=⟨a.os,a.tape,a.output,a.size,g,λq n o=>a.block q n (λe=>o (by rw[List.mem_singleton.1 e];exact h.s.t))⟩;have⟨p,r,_⟩:=h.q.lts;refine⟨br,sb,qp,qb,rfl,⟨?_,(h.k.fr j h.tk (by simp)).1,h.d.fr j (λt x e=>by subst e;simp[iP]at x) (by simp),rfl,h.ln,?_,h.q.bH a (λe=> ?_) (λe=> ?_) (by simp),
  (g _ (az h.c)).trans h.tb,λb m=>(g _ (h.k.lt b m)).trans (h.tk b m),(g _ p).trans h.t1,(g _ r).trans h.t2,by simp⟩,h.f.trans (j.mono λt e=>by rw[e];exact .inr (.inr (.inr rfl)))⟩
 .exact a.at h.c (by simpa using h.ne)
 .rw[fR]at l
  have:(oI ⟨id,0,life,false,cN.map jB.v,[],[]⟩).QU=cN.map abB:=by
   unfold oI;simp only[fT];rfl
  rw[this];exact l
 .have:=h.t1;rw[List.mem_singleton.1 e,h.s.t]at this;cases this
 .have:=h.t2;rw[List.mem_singleton.1 e,h.s.t]at this;cases this
def CU.start{sb qp qb:Nat}{s_:cj}(h:CU i bx kv kg dp db cN id life τ w sb qp qb s_ u):NB i s_ u sb cN 0 u:=⟨s_,h.s,aQ.refl _ _,λ_ _=>rfl⟩
def CU.round{sb qp qb:Nat}{s_:cj}{wr:ae}(h:CU i bx kv kg dp db cN id life τ w sb qp qb s_ u)(a:aQ [sb] u wr):
 wr.heap[bx]? =some (aB #[id,an ar 0,aw true,kv,dp,.map (some sb),qp] 101 (0,0))/\kV s_ wr i dp db (life+1) cN/\
  Seg wr 3 1 kg kv ((jS cN).flatMap dX) (jS cN).length:=by
 have b:Fr (·=.JR i) s_ s_ u wr:=Fr.fm a (by simpa using h.s.t);exact⟨a.at h.c (by simpa using h.ne),h.d.fr b (λt f e=>by subst e;simp[iP]at f) (by simp),(h.k.fr b h.tk (by simp)).1⟩
end
section
open Go.ChangeMaps mX
variable{τ:cj}{w:ae}{i bx:Nat}{kv:ah}{kg:Option Nat}{dp db:Nat}{cN:List jB}{id life e0:Int}{u0:Bool}{v5 v6:ah}
def Vh(h:PF τ w i bx kv kg dp db cN id e0 life u0 v5 v6)(hl:life<1000000000):aj prog 87 #[bx] w (Ru i bx kv kg dp db cN id life τ w):=by
 have HB:=au (ae6 h.d hl);have K:=h.c;have c4:=aF K 4 rfl;have L:τ bx≠.FQ i:=by rw[h.tb];simp
 have⟨HC,HOF,HNW,M,HKL,N⟩:=eC (λw1 (hf:Fr (·=.FQ i) τ τ w w1)=>hf.at K L) (λ(w1 w2 u:ae)=>CU.of h (w1:=w1) (w2:=w2) (u:=u)) (λy=>ady y) h.ln h.k.len (λ(sb qp qb:Nat) (s_:cj) (u wr:ae)=>CU.fin (τ:=τ) (w:=w) (i:=i) (bx:=bx) (kv:=kv) (kg:=kg) (dp:=dp) (db:=db) (cN:=cN) (id:=id) (life:=life) (sb:=sb) (qp:=qp) (qb:=qb) (s_:=s_) (u:=u) (wr:=wr));have Cv:=au (show∀m∈cN,0<=m.v.s/\m.v.s<=5/\cQ m.v.now/\m.v.now.length<=100000 fromλm hm=>by
  have⟨_,k1,_,k2,k3,k4,k5⟩:=(h.d.r m hm).ok;exact⟨k4,k5,k1,by omega⟩)
 have HND:=au (show(jS cN).Nodup from h.d.nd);generalize Ru i bx kv kg dp db cN id life τ w=Q at*;have hmm:= @run_makeMap prog;clear h K L;go_in;go_wp2_with fail
 refine HB.m ?_;rintro e w1 ⟨rfl,O,C⟩;have E:=HC.o w1 C;have P:=az E;have⟨HD1,Zk,se⟩:=aX O C E;clear O C E c4;go_wp2_with fail
 refine(HNW.o w1).mono ?_;rintro e w2 ⟨rfl,T,a⟩;have⟨u,hu⟩:=aD (((((w2.setCell ⟨bx,2,none⟩ (aw true)).setCell ⟨bx,1,none⟩ (0:Int)).setCell ⟨bx,6,none⟩ (aL (some ⟨w1.heap.size+1,0,none⟩))).setCell ⟨bx,5,none⟩ (.map (some w2))).alloc (.map #[] 0));have U:=HOF.o w1 w2 u HD1.o Zk.o T a hu;have b:=(a.block bx P).trans se.o;have V:=az b;have W:=bB b;have f20:=W 2;have f21:=W 1;have f26:=W 6;have f25:=W 5;have g2:=aF b 2 rfl;have g1:=aF b 1 rfl;have g6:=aF b 6 rfl;have g5:=aF b 5 rfl;have⟨HU,n⟩:=aK hu U;clear T a hu U b W P;go_upto_region 3 with fail
 rw[<-HU.o];generalize pX τ i w1 w2=s_ at*;generalize w2.heap.size=sb at*;generalize w1.heap.size+1=qp at*;generalize w1.heap.size=qb at*;have⟨qH,HST,HQ⟩:=aX (λwr (K:aQ [sb] u wr)=>n.o.round K) n.o.start (λwr=>N.o sb qp qb s_ u wr n.o);have⟨X,_,_⟩:=n.o.round (aQ.refl _ _);obtain⟨ka,aqm,rfl,_⟩:=HKL.o;have d3:=aF X 3 rfl;have⟨D,hD⟩:= @aD (Nat->ae->Prop) (λk wr=>NB i s_ u sb cN k wr);have HD:=au hD;have hkn:(jS cN).length=cN.length:=by simp[jS]
 clear X hD hmm f20 f21 f26 f25 g2 g1 g6 g5 V;go_wp2_with fail
 go_loopw [32] (λi wr=>∃k:Nat,i=an ar k/\k<=cN.length/\D k wr) (λi _=>cN.length-(intOf i).toNat)
 case atStart=>exact⟨0,rfl,bz _,by rw[HD.o];exact HST.o⟩
 case round=>
  obtain⟨k,rfl,hk,J⟩:=hrel;rw[HD.o]at J;have hd0:=J;obtain⟨br,h1,h2,h3⟩:=hd0;have⟨q,F,G⟩:=qH.o wr h2;have e4:=aF q 4 rfl;by_cases x:k<cN.length
  .obtain⟨eb,eo,rfl,ebl,Y⟩:=(aT.gP (f:=dX) (xs:=jS cN) G (λ_=>rfl) (by decide)).slot k (by omega)
   have x0:_=some (Value.int .i64 ((jS cN).getD k 0)):=Y 0 _ rfl;simp only[bM,Nat.mul_one]at x0;have Z:(jS cN).getD k 0=(cN[k]).v.s:=by simp[jS,aU,x]
   rw[Z]at x0;have⟨m1,m2,m3,m4⟩:=Cv.o (cN[k]) (eA x);have⟨HRE,HDE,Mk⟩:=aX (aaX F (eA x)) (λy v g (hs:Seg y 5 1 g v (lJ (cN[k]).v.now) (cN[k]).v.now.length)=>X2 v _ y (gC hs) m3 (by omega)) (λ(z:ae) (hz:aQ ([]:List Nat) wr z) (B:Nat) (hB:wr.heap.size<=B) (pv:ah) (hg:GrO B z pv (iz (cN[k]).v.now).1)=>NB.next (wr:=wr) J x M.o HND.o (eN (by omega) (by omega)) hz hB hg);generalize(cN[k]).v.s=s at*;generalize(cN[k]).v.now=now at*;have z1':(0:Int)<=(k:Int):=by omega
   have z2':(k:Int)<(cN.length:Int):=by omega
   have XJ:=au q;have hln:=M.o;clear q F G J h1 h2 h3 Y Z m3;go_wp2_with fail
   refine HRE.m ?_;rintro e z1 ⟨v1,rfl,⟨g1,H,hx1⟩,I⟩;have akd:=au (HDE.o z1 v1 g1 H);obtain⟨a1,c1,rfl,_⟩:=H.len;have A:=(ch I).at XJ.o (by simp);have⟨HB1,ake⟩:=aK I A;clear H hx1 I A e4 x0;go_wp2_with fail
   refine akd.m ?_;rintro e z2 ⟨v2,rfl,j,a⟩;have l:=(ch a).at ake.o (by simp);have y5:=aF l 5 rfl;have V:=az l;have⟨t,hrun,hin,hct⟩:=Mk.o z2 ((aQ.of_below HB1.o).trans (aQ.of_below a)) z1 HB1.o.size v2 j;have Eu:=au hin;obtain⟨pa,rfl⟩:∃pa,v2=aL pa:=by
    cases ho:(iz now).1 with
    |none=>rw[ho]at j;exact⟨none,j⟩
    |some ns=>rw[ho]at j;obtain⟨p,h1,_⟩:=j;exact⟨_,h1⟩
   generalize(iz now).2=en at*;clear j a l hin hct;go_wp2_with fail
   go_roundw
   case rel=>exact⟨k+1,rfl,by omega,by rw[HD.o];exact Eu.o⟩
   case measure=>simp[intOf];omega
  .obtain rfl:k=cN.length:=by omega
   have HF:=au (HQ.o _ J);clear J h1 h2 h3 q F G;go_wp2
   go_end0
   exact HF.o
end
def fZ(i bx:Nat)(v:gL)(τ:cj)(w w':ae):Prop:=∃br m',fM br w' i m' v/\m'.bx=bx/\Fr (e_ i) τ br w w'
variable{m:CT}
def fM.box{v:gL}(h:fM τ w i m v){y:ae}{k:Nat}{x:ah}(b:y=w.setCell ⟨m.bx,k,none⟩ x)(v':gL)(hid:v'.id=v.id)(g:v'.life=v.life)(j:v'.cN=v.cN)(l:v'.QU=v.QU)(n:v'.q=v.q)
 (o:(#[an ar v.id,an ar v.aW,aw v.up,m.kv,m.dp,.map (some m.sb),m.qp]:Array ah).setIfInBounds k x= #[an ar v'.id,an ar v'.aW,aw v'.up,m.kv,m.dp,.map (some m.sb),m.qp]):
 fZ i m.bx v' τ w y:=by
 have p:aQ [m.bx] w y:=by rw[b];exact(aQ.refl _ _).setCell _ (by simp) _
 have a:Fr (·=.M7 i) τ τ w y:=Fr.fm p (by simpa using h.tb);have⟨r,u,z⟩:=h.q.lts;refine⟨τ,m,⟨?_,(h.k.fr a h.tk (by simp)).1,?_,h.iv.trans j.symm,h.ln,?_,?_,h.tb,h.tk,h.t1,h.t2,h.t3⟩,rfl,a.mono λt e=>.inl e⟩
 .have:=aE (i:=k) h.c x
  rw[o]at this;rw[b];exact this
 .rw[g];exact h.d.fr a (λt A e=>by subst e;simp[iP]at A) (by simp)
 .rw[l];exact h.s.fr a (by simp) (by simp)
 .rw[n]
  exact h.q.kept' (a.block _ r (by rw[h.t1];simp)) (a.block _ u (by rw[h.t2];simp)) (λx f=>a.block _ (z x f) (by rw[h.t3 x f];simp))
def fM.same{v:gL}(h:fM τ w i m v){y:ae}(a:ai w w y):fZ i m.bx v τ w y:=
 ⟨eP τ w .keep,m,h.fr (P:=λ_=>False) (Fr.of_below a _ _ _) (λ_ _ h=>h) (λh=>h),rfl,Fr.of_below a _ _ _⟩
def vK{v:gL}(h:fM τ w i m v):aj prog 23 #[m.bx] w λe w'=>e=ax (aw v.up)/\w=w':=by
 have a:=h.c;have b:=aF a 2 rfl;generalize m.bx=bx at*;generalize v.up=up at*;clear h a;go_in;go_wp2;go_ret;exact⟨rfl,rfl⟩
def YF{v:gL}(h:fM τ w i m v):aj prog 40 #[m.bx] w λe w'=>e=ax (if v.up then v.aW else 0:Int)/\w=w':=by
 have a:=au (vK h);have b:=h.c;have d:=aF b 1 rfl;generalize m.bx=bx at*;generalize v.up=up at*;generalize v.aW=ep at*;clear h b;cases up
 .go_in
  go_wp2_with fail
  refine aH a.o ?_;go_wp2;go_ret;exact⟨rfl,rfl⟩
 .go_in
  go_wp2_with fail
  refine aH a.o ?_;go_wp2;go_ret;exact⟨rfl,rfl⟩
def NC{v:gL}(h:fM τ w i m v):aj prog 54 #[m.bx] w λe w'=>e=ax m.dp/\w=w':=by
 have a:=h.c;have b:=aF a 4 rfl;generalize m.bx=bx at*;generalize m.dp=dp at*;clear h a;go_in;go_wp2;go_ret;exact⟨rfl,rfl⟩
def F_{v:gL}(h:fM τ w i m v):aj prog 39 #[m.bx] w λe w'=>e=ax v.life/\w=w':=by
 have⟨a,b⟩:=aK (NC h) (ae5 h.d);generalize m.bx=bx at*;generalize m.dp=dp at*;generalize v.life=life at*;clear h;go_in;go_wp2_with fail
 refine aH a.o ?_;go_wp2_with fail
 refine aH b.o ?_;go_wp2;go_ret;exact⟨rfl,rfl⟩
def abD{v:gL}(h:fM τ w i m v):aj prog 71 #[m.bx] w λe w'=>∃n,e=ax (an ar n)/\fZ i m.bx (eL v) τ w w':=by
 have a:=h.c;have k:=aF a 2 rfl;have l:=bB a 2;have b:=au (show v.up=true->fZ i m.bx (eL v) τ w (w.setCell ⟨m.bx,2,none⟩ (aw false))fromλd=>h.box rfl _ (by unfold eL;split<;>rfl) (by unfold eL;split<;>rfl) (by unfold eL;split<;>rfl) (by unfold eL;split<;>rfl) (by unfold eL;split<;>rfl) (by
  unfold eL;rw[aI d];simp))
 have f:=au (show v.up=false->fZ i m.bx (eL v) τ w w fromλd=>by
  unfold eL;rw[aC (by simp[d])];exact h.same (aO _ _))
 generalize fZ i m.bx (eL v) τ w=Q at*;generalize m.bx=bx at*;generalize v.up=up at*;clear h a;cases up
 .have g:=au (f.o rfl)
  clear b f;go_in;go_wp2;go_ret;exact⟨_,rfl,g.o⟩
 .have j:=au (b.o rfl)
  clear b f;go_in;go_wp2;go_ret;exact⟨_,rfl,j.o⟩
def fM.beg{v:gL}(h:fM τ w i m v):PF τ w i m.bx m.kv m.kg m.dp m.db m.cN v.id v.aW v.life v.up (.map (some m.sb)) m.qp:=
 ⟨h.c,h.k,h.d,h.ln,h.tb,h.tk⟩
def Vi{v:gL}(h:fM τ w i m v)(k:v.life<1000000000):aj prog 72 #[m.bx] w λe w'=>∃n,e=ax (an ar n)/\fZ i m.bx (gV v) τ w w':=by
 have f:=au (Vh h.beg k);have g:=h.c;have A:=aF g 2 rfl;have a:=au (show v.up=false->∀e w',Ru i m.bx m.kv m.kg m.dp m.db m.cN v.id v.life τ w e w'->e=ax (aM #[])/\fZ i m.bx (gV v) τ w w' fromλb e w' ⟨br,l,p,q,r,s,t⟩=>⟨r,br,⟨m.bx,m.kv,m.kg,m.dp,m.db,m.cN,l,p,q,none⟩,by
  unfold gV;rw[aC (by simp[b])];have:oI v=oI ⟨v.id,0,v.life,false,m.cN.map jB.v,[],[]⟩:=by unfold oI;rw[h.iv]
  rw[this];exact s,rfl,t⟩)
 have d:=au (show v.up=true->fZ i m.bx (gV v) τ w w fromλb=>by
  unfold gV;rw[aI b];exact h.same (aO _ _))
 generalize fZ i m.bx (gV v) τ w=Q at*;generalize Ru i m.bx m.kv m.kg m.dp m.db m.cN v.id v.life τ w=R at*;generalize m.bx=bx at*;generalize v.up=up at*;clear h g;cases up
 .have u:=au (a.o rfl)
  clear a d;go_in;go_wp2_with fail
  refine f.m ?_;intro e y j;obtain⟨rfl,x⟩:=u.o e y j;clear j;go_wp2;go_ret;exact⟨_,rfl,x⟩
 .have z:=au (d.o rfl)
  clear a d f;go_in;go_wp2;go_ret;exact⟨_,rfl,z.o⟩
variable{t:Tg}
def Ga(n:Nat)(h:dB t):uA n t:=by
 refine⟨?_,λk _=> ?_⟩<;>rintro rfl<;>simp[dB]at h
def zM(n:Nat)(h:e_ i t):uA n t:=by
 refine⟨?_,λk _=> ?_⟩<;>rintro rfl<;>simp[e_,iP]at h
def Gb(h:e_ i t):¬dB t:=by
 unfold e_ iP at h;rcases h with rfl|(rfl|rfl|⟨s,rfl⟩)|rfl|rfl<;>simp[dB]
def PG{j:Nat}(a:i≠j)(h:e_ i t):¬e_ j t:=by
 unfold e_ iP at h;rcases h with rfl|(rfl|rfl|⟨s,rfl⟩)|rfl|rfl<;>simp[e_,iP,a]
def Gc{b d:Type}(f:b->d)(l:List b)(i:Nat)(g:i<l.length)(a:b)(h:f a=f (l[i])):(l.set i a).map f=l.map f:=by
 refine List.ext_getElem (by simp) λn j k=> ?_
 rw[List.getElem_map,List.getElem_map,List.getElem_set];split
 .rename_i e;subst e;exact h
 .rfl
structure kj(c:aV)(τ:cj)(w:ae)(m:I3)(rb:Nat)(rm:RcM)(x:di)(rs:List cS):Prop where
 cl:lx c τ w m x rs
 rb:sZ τ w rs.length rb rm
def StP(c:aV)(xb rb:Nat)(x:di)(r:cS)(rs:List cS)(τ:cj)(w w':ae):Prop:=
 ∃br m rm,kj c br w' m rb rm x rs/\m.xb=xb/\rm.r=r/\Fr (uA rs.length) τ br w w'
variable{m:I3}{x:di}
def kj.len{a:Nat}{b:RcM}{rs:List cS}(h:kj c τ w m a b x rs):m.rs.length=rs.length:=by rw[<-h.cl.rv,cr]
def kj.Rv{b:Nat}{f a:RcM}{rs:List cS}(h:kj c τ w m b f x rs)(g:sZ br w' rs.length b a)(d:Fr (·=.rc rs.length) τ br w w'):kj c br w' m b a x rs/\Fr (uA rs.length) τ br w w':=
 ⟨⟨h.cl.fr d λt e=>by rw[h.len];exact e,g⟩,d.mono λt e=>by
  have e:=e;subst e;exact⟨by simp,λk j=>by simp;omega⟩⟩
def kj.ND{rb:Nat}{d:RcM}{rs:List cS}(h:kj c τ w m rb d x rs){y:cB}{b:jG}(h1:cJ c br w' b y)(h2:b.cb=m.co.cb)(a:Fr dB τ br w w'):kj c br w' ⟨m.xb,b,m.ws,m.nv,m.ng,m.np,m.rv,m.rg,m.rs⟩ rb d {x with co:=y} rs:=by
 have⟨f,g⟩:=h.cl.nd.fr a h.cl.nt (by simp[dB]);refine⟨⟨?_,(a.old _ (az h.cl.bx)).trans h.cl.t,h1,h.cl.wl,λi hi=>(h.cl.ws i hi).fr a (λt j=>Gb j) lO,?_,g,h.cl.net.fr a (by simp[dB]),h.cl.rc.fr a (by simp[dB]) (λk _=>by simp[dB]),h.cl.rv⟩,h.rb.fr a (by simp[dB])⟩
 .have:=a.at h.cl.bx (by rw[h.cl.t];simp[dB])
  simpa[h2]using this
 .have e:vJ ⟨m.xb,b,m.ws,m.nv,m.ng,m.np,m.rv,m.rg,m.rs⟩=vJ m:=by unfold vJ;simp only;rw[h2]
  rw[e];exact f
def kj.PH{rb:Nat}{l:RcM}{rs:List cS}(h:kj c τ w m rb l x rs)(hi:i<m.ws.length){v:gL}{b:CT}(h1:fM br w' (i+1) b v)(h2:b.bx=(m.ws[i]).bx)(a:Fr (e_ (i+1)) τ br w w'):kj c br w' ⟨m.xb,m.co,m.ws.set i b,m.nv,m.ng,m.np,m.rv,m.rg,m.rs⟩ rb l {x with ws:=x.ws.set i v} rs:=by
 have⟨n,o⟩:=h.cl.nd.fr a h.cl.nt (by simp[e_,iP]);have d:=h.cl.wl;refine⟨⟨?_,(a.old _ (az h.cl.bx)).trans h.cl.t,h.cl.co.fr a (λt f e=>Gb e f) (nj _),by simpa using d,λj p=> ?_,?_,o,h.cl.net.fr a (by simp[e_,iP]),h.cl.rc.fr a (by simp[e_,iP]) (λk _=>by simp[e_,iP]),h.cl.rv⟩,h.rb.fr a (by simp[e_,iP])⟩
 .exact a.at h.cl.bx (by rw[h.cl.t];simp[e_,iP])
 .have g:j<m.ws.length:=by simpa using p
  show fM br w' (j+1) ((m.ws.set i b)[j]) ((x.ws.set i v).getD j ())
  rw[List.getElem_set];by_cases e:i=j
  .subst e
   rw[aI rfl];have:(x.ws.set i v).getD i ()=v:=by simp[aU,show i<x.ws.length by omega]
   rw[this];exact h1
  .rw[aC e]
   have:(x.ws.set i v).getD j ()=x.ws.getD j ():=by simp[aU,iW,e]
   rw[this];exact(h.cl.ws j g).fr a (λt f=>PG (by omega) f) (nj _)
 .have e:vJ ⟨m.xb,m.co,m.ws.set i b,m.nv,m.ng,m.np,m.rv,m.rg,m.rs⟩=vJ m:=by
   unfold vJ;simp only;congr 1;exact Gc _ _ i hi _ (by rw[h2])
  show Seg w' 96 1 m.ng m.nv _ ((m.ws.set i b).length+1)
  rw[e,ds];exact n
def kj.work{rb:Nat}{a:RcM}{rs:List cS}(h:kj c τ w m rb a x rs)(hi:i<m.ws.length){v:gL}(d:fZ (i+1) (m.ws[i]).bx v τ w w'):StP c m.xb rb {x with ws:=x.ws.set i v} a.r rs τ w w':=by
 obtain⟨br,f,h1,h2,b⟩:=d;exact⟨br,_,a,h.PH hi h1 h2 b,rfl,rfl,b.mono λt e=>zM _ e⟩
def kj.abE{rb:Nat}{d:RcM}{rs:List cS}(h:kj c τ w m rb d x rs){next:Int}{L:List GV}(f:YC br w' m.np c.net next L)(a:Fr (·=.net) τ br w w'):kj c br w' m rb d {x with next:=next,net:=L} rs/\Fr (uA rs.length) τ br w w':=by
 have⟨g,j⟩:=h.cl.nd.fr a h.cl.nt (by simp);exact⟨⟨⟨a.at h.cl.bx (by rw[h.cl.t];simp),(a.old _ (az h.cl.bx)).trans h.cl.t,h.cl.co.fr a (λt b e=>by have e:=e;subst e;simp[dB]at b) (by simp),h.cl.wl,λi hi=>(h.cl.ws i hi).fr a (λt b e=>by have e:=e;subst e;simp[e_,iP]at b) (by simp),g,j,f,h.cl.rc.fr a (by simp) (λk _=>by simp),h.cl.rv⟩,h.rb.fr a (by simp)⟩,a.mono λt e=>by
  have e:=e;subst e;exact⟨by simp,λk l=>by simp⟩⟩
def kj.same{b:Nat}{d:RcM}{rs:List cS}(h:kj c τ w m b d x rs)(a:ai w w w')(t:Tg):kj c (eP τ w t) w' m b d x rs/\Fr (uA rs.length) τ (eP τ w t) w w':=
 ⟨⟨h.cl.fr (P:=λ_=>False) (Fr.of_below a _ _ _) (λ_ e=>e.elim),h.rb.fr (P:=λ_=>False) (Fr.of_below a _ _ _) id⟩,Fr.of_below a _ _ _⟩
def kj.fu{a:Nat}{b:RcM}{rs:List cS}(h:kj c τ w m a b x rs)(d:ai w w w'):kj c τ w' m a b x rs:=
 ⟨h.cl.fr (P:=λ_=>False) (Fr.eS d _ _) (λ_ e=>e.elim),h.rb.fr (P:=λ_=>False) (Fr.eS d _ _) id⟩
def StP.trans{xb a:Nat}{x':di}{r e:cS}{rs:List cS}{y:ae}(h:StP c xb a x r rs τ w y)(g:∀τ m f,kj c τ y m a f x rs->m.xb=xb->f.r=r->StP c xb a x' e rs τ y w'):StP c xb a x' e rs τ w w':=by
 obtain⟨b,j,k,l,n,o,p⟩:=h;have⟨d,q,s,u,v,z,A⟩:=g b j k l n o;exact⟨d,q,s,u,v,z,p.trans A⟩
section
open Go.ChangeMaps mX
variable{P:Tg->Prop}{τ br σ:cj}{w w':ae}{c:aV}
def cJ.retag{m:jG}{x:cB}(h:cJ c τ w m x)(o:∀b,b<w.heap.size->dB (τ b)∨τ b=.keep->σ b=τ b):cJ c σ w m x:=by
 have e:∀b t,b<w.heap.size->τ b=t->(dB t∨t=.keep)->σ b=t:=λb t f j n=>by
  rw[<-j]at n;rw[o b f n,j]
 refine⟨h.bx,⟨h.u.s,h.u.z,λb f=>e b _ (h.u.s.lt b f) (h.u.t b f) (.inr rfl)⟩,⟨h.p.s,h.p.r,λb f=>e b _ (h.p.s.lt b f) (h.p.t b f) (.inr rfl),λk g b f=>e b _ ((h.p.r k g).lt b f) (h.p.tr k g b f) (.inr rfl)⟩,h.pc,
  ⟨h.l.a,e _ _ (az h.l.a.c) h.l.t (.inl (by simp[dB]))⟩,⟨h.s.at',e _ _ (az h.s.at'.1) h.s.tp (.inl (by simp[dB])),e _ _ h.s.at'.2.1.lt h.s.ta (.inl (by simp[dB])),e _ _ h.s.at'.2.2.1.lt h.s.tb (.inl (by simp[dB]))⟩,
  ⟨h.i.a,λb f=>e b _ (h.i.a.lt b f) (h.i.t b f) (.inl (by simp[dB]))⟩,
  ⟨h.q.m,λk g=>⟨(h.q.r k g).c,(h.q.r k g).mg,(h.q.r k g).ss,(h.q.r k g).sh,(h.q.r k g).tx,e _ _ (az (h.q.r k g).c) (h.q.r k g).t (.inl (by simp[dB])),λb f=>e b _ ((h.q.r k g).mg.lt b f) ((h.q.r k g).tm b f) (.inl (by simp[dB]))⟩,h.q.nd,e _ _ h.q.m.lt h.q.t (.inl (by simp[dB]))⟩,h.qv,
  ⟨h.d.s,h.d.r,λb f=>e b _ (h.d.s.lt b f) (h.d.t b f) (.inl (by simp[dB])),λk g b f=>e b _ ((h.d.r k g).lt b f) (h.d.tr k g b f) (.inl (by simp[dB]))⟩,h.dv,e _ _ (az h.bx) h.t (.inl (by simp[dB]))⟩
open Classical in
noncomputable def tidy (P:Tg->Prop) (τ br:cj) (n:Nat):cj:=λb=>if b<n then τ b else if P (br b)then br b else .keep
def Bd(P:Tg->Prop)(τ br:cj)(n:Nat){b:Nat}(a:n<=b):P (tidy P τ br n b)∨tidy P τ br n b=.keep:=by
 unfold tidy;rw[aC (by omega)];split
 .rename_i h;exact .inl h
 .exact .inr rfl
def PI(h:Fr P τ br w w'):Fr P τ (tidy P τ br w) w w':=
 ⟨h.os,h.tape,h.output,h.size,λk a=>by unfold tidy;rw[aI a],h.block⟩
def I2.tidy{f:Nat}{x:cB}(h:I2 c f x τ w w'):∃br m,cJ c br w' m x/\m.cb=f/\Fr dB τ br w w'/\∀b,w.heap.size<=b->dB (br b)∨br b=.keep:=by
 obtain⟨d,m,i,j,g⟩:=h;refine⟨Go.Proofs.YtjpnlfpompnpkaaGreat.tidy dB τ d w,m,i.retag λb _ a=> ?_,j,PI g,λb a=>Bd _ _ _ _ a⟩;unfold Go.Proofs.YtjpnlfpompnpkaaGreat.tidy;split
 .rename_i e;exact(g.old b e).symm
 .split
  .rfl
  .rename_i k
   obtain a|a:=a
   .exact bL a k
   .exact a.symm
end
def fZ.jt{bx:Nat}{v:gL}{y z:ae}(h:fZ i bx v τ w y)(b:ai y y z):fZ i bx v τ w z:=by
 obtain⟨c,m,d,e,f⟩:=h;have⟨a,g,j,k,l⟩:=d.same b;exact⟨a,g,j,k.trans e,f.trans l⟩
def fZ.trans{bx:Nat}{v v':gL}{y z:ae}(h:fZ i bx v τ w y)(c:∀τ m,fM τ y i m v->m.bx=bx->fZ i bx v' τ y z):fZ i bx v' τ w z:=by
 obtain⟨a,d,e,f,g⟩:=h;have⟨b,j,k,l,n⟩:=c a d e f;exact⟨b,j,k,l,g.trans n⟩
def Vj{m:CT}{v:gL}(h:fM τ w i m v)(a:v.up=false)(x:cd)(iv:ah):aj prog 219 #[m.bx,x.val iv] w λe w'=>e=ax (aM #[])/\fZ i m.bx (dD v x) τ w w':=by
 have c:=au (show fZ i m.bx (dD v x) τ w w by
  unfold dD;rw[aC (by simp[a])];exact h.same (aO _ _))
 have b:=au (vK h);rw[a]at b;generalize fZ i m.bx (dD v x) τ w=Q at*;generalize m.bx=bx at*;generalize x.val iv=xv at*;clear h a;go_in;go_wp2_with fail
 refine aH b.o ?_;go_wp2
 (try simp only[Exit.inBlock,Exit.then])
 refine fS (results_none rfl _ _ _) rfl ?_;exact⟨rfl,c.o⟩
def Rw{m:CT}{v:gL}(h:fM τ w i m v)(t:v.up=true)(x life aW:Int)(iv:ah):aj prog 219 #[m.bx,(cd.grant x life aW).val iv] w λe w'=>e=ax (aM #[])/\fZ i m.bx (dD v (.grant x life aW)) τ w w':=by
 have⟨u1,d⟩:=aD (w.alloc (aB #[x,life,aW] 238 (0,0)));have⟨b1,J,bl⟩:=dt d;have hs:=h.same J.aJ;have K:=au (vK h);rw[t]at K;have L:∀n,aj prog 39 #[m.bx] (u1.drewN n) λe w'=>e=ax v.life/\u1.drewN n=w':=λn=>by
  have⟨l,m1,h1,h2,U⟩:=hs.jt (bo u1 n).aJ;have:=F_ h1;rw[h2]at this;exact this
 have u:=au L;have⟨B,A⟩:= @aD Bool (decide (x=v.id/\life=v.life/\v.aW<aW));have E:=au (show B=false->∀n z y,z=u1.drewN n->ai z z y->fZ i m.bx (dD v (.grant x life aW)) τ w y fromλa n z y p F=>by
  have:dD v (.grant x life aW)=v:=by
   unfold dD;rw[aI t];simp only;rw[aC];intro k;rw[A,decide_eq_true k]at a;cases a
  rw[this];subst p;exact(hs.jt (bo u1 n).aJ).jt F)
 have G:=au (show B=true->∀n z y,z=u1.drewN n->ai (z.setCell ⟨m.bx,1,none⟩ aW).heap.size (z.setCell ⟨m.bx,1,none⟩ aW) y->fZ i m.bx (dD v (.grant x life aW)) τ w y fromλa n z y p F=>by
  subst p;have:dD v (.grant x life aW)={v with aW:=aW}:=by
   unfold dD;rw[aI t];simp only;rw[A]at a;rw[aI (of_decide_eq_true a)]
  rw[this];refine fZ.jt ?_ F;refine(hs.jt (bo u1 n).aJ).trans λl m1 h1 h2=> ?_
  rw[<-h2];exact h1.box rfl _ rfl rfl rfl rfl rfl rfl)
 obtain⟨l,m1,h1,h2,_⟩:=hs;have k:=h1.c;rw[h2]at k;have N:=au (show∀n z,z=u1.drewN n->z.heap[m.bx]? =_/\z.heap[w.heap.size]? =_ fromλn z p=>by
  subst p;exact⟨(bo u1 n).at k (by simp),(bo u1 n).at b1 (by simp)⟩)
 have⟨c0,c1⟩:=dk k;have⟨M,d1,d2⟩:=oN b1;generalize fZ i m.bx (dD v (.grant x life aW)) τ w=Q at*;generalize m.bx=bx at*;have q:B=((x==v.id)&&((life==v.life)&&decide (v.aW<aW))):=by
  rw[A,Bool.eq_iff_iff];simp
 generalize v.id=id at*;generalize v.life=vl at*;generalize v.aW=ve at*;have⟨C,H⟩:=aK q d;have⟨V,f⟩:=aD w.heap.size;rw[<-f]at M d1 d2 bl;have s:=au f
 show aj prog 219 #[bx,.iface 238 (aG #[x,life,aW])] w _
 clear h t L A q h1 h2 k b1 J d f;go_in;go_wp2_with fail
 refine aH K.o ?_;go_upto_region 2 with fail
 rw[<-H.o,<-s.o];go_cut [43] (λr wc=>r=aw B/\∃n,wc=u1.drewN n)
 case first=>
  cases p1:(x==id)
  .go_wp2_with fail
   go_quiet ((go_at_call 39;exact de (u.o _)));go_wp2;go_meet;exact⟨by rw[C.o,p1];rfl,_,rfl⟩
  .cases p2:(life==vl)
   .go_wp2_with fail
    go_quiet ((go_at_call 39;exact de (u.o _)));go_wp2;go_meet;exact⟨by rw[C.o,p1,p2];rfl,_,rfl⟩
   .cases p3:decide (ve<aW)
    .go_wp2_with fail
     go_quiet ((go_at_call 39;exact de (u.o _)));go_wp2;go_meet;exact⟨by rw[C.o,p1,p2,p3];rfl,_,rfl⟩
    .go_wp2_with fail
     go_quiet ((go_at_call 39;exact de (u.o _)));go_wp2;go_meet;exact⟨by rw[C.o,p1,p2,p3];rfl,_,rfl⟩
 case rest=>
  obtain⟨rfl,n,b⟩:=hcut;have⟨g,j⟩:=N.o n wc b;rw[<-s.o]at j;have⟨O,T⟩:=aK (λa y=>E.o a n wc y b) (λa y=>G.o a n wc y b);have W:=aF g 1 rfl;have X:=bB g 1;have Y:=aF j 2 rfl;clear g j b c0 c1 M d1 d2 bl;cases B
  .have I:=au (O.o rfl)
   go_upto_region 5 with fail
   go_region
   go_wp2
   go_end0
   exact⟨rfl,I.o _ (by repeat (first|exact aO _ _|refine ef ?_ _|refine Below.drew ?_))⟩
  .have I:=au (T.o rfl)
   go_upto_region 5 with fail
   go_region
   go_wp2
   go_end0
   exact⟨rfl,I.o _ (by repeat (first|exact aO _ _|refine ef ?_ _|refine Below.drew ?_))⟩
def fM.queue{i:Nat}{m:CT}{v:gL}(h:fM τ w i m v){y:ae}{j:List cf}{g':Option Nat}(l:pA y m.qp m.qb g' j)(n:aQ (m.qp::m.qb::m.qg.toList) w y)(o:g'=m.qg∨∃x,g'=some x/\w.heap.size<=x):fZ i m.bx {v with q:=j} τ w y:=by
 have⟨l1,l2,p⟩:=h.q.lts;have r:∀x∈m.qp::m.qb::m.qg.toList,τ x=.CM i:=λx f=>by
  simp only[bQ,eZ]at f;obtain rfl|rfl|f:=f
  .exact h.t1
  .exact h.t2
  .exact h.t3 x f
 have a:Fr (·=.CM i) τ (eP τ w (.CM i)) w y:=Fr.dC n r _;have⟨u,z⟩:=h.k.fr a h.tk (by simp);refine⟨_,⟨m.bx,m.kv,m.kg,m.dp,m.db,m.cN,m.sb,m.qp,m.qb,g'⟩,⟨a.at h.c (by rw[h.tb];simp),u,h.d.fr a (λt A e=>by subst e;simp[iP]at A) (by simp),h.iv,h.ln,h.s.fr a (by simp) (by simp),l,(a.old _ (az h.c)).trans h.tb,z,(a.old _ l1).trans h.t1,(a.old _ l2).trans h.t2,λb g=> ?_⟩,rfl,a.mono λt e=>by rw[e];exact .inr (.inr (.inl rfl))⟩;obtain rfl|⟨x,rfl,f⟩:=o
 .exact(a.old b (p b g)).trans (h.t3 b g)
 .simp only[bA]at g
  subst g;exact d_ f
def EL{i:Nat}{m:CT}{v:gL}(h:fM τ w i m v)(d:v.up=true)(x:cd)(iv:ah)(f:(∃a b,x=.eu a b)∨∃r,x=.dj r):aj prog 219 #[m.bx,x.val iv] w λe w'=>e=ax (aM #[])/\fZ i m.bx (dD v x) τ w w':=by
 have g:=au (show∀y,ai w w y->fZ i m.bx (dD v x) τ w y fromλy j=>by
  have:dD v x=v:=by
   unfold dD;rcases f with⟨a,b,rfl⟩|⟨r,rfl⟩<;>simp
  rw[this];exact h.same j)
 have c:=au (vK h);rw[d]at c;generalize fZ i m.bx (dD v x) τ w=Q at*;generalize m.bx=bx at*;clear h d;obtain⟨a,b,rfl⟩|⟨r,rfl⟩:=f
 .show aj prog 219 #[bx,.iface 235 (aG #[an ar a,an ar b])] w _
  go_in;go_wp2_with fail
  refine aH c.o ?_;go_upto_region 2 with fail
  go_region
  go_upto_region 5 with fail
  go_region
  go_wp2
  go_end0
  exact⟨rfl,g.o _ (by repeat (first|exact aO _ _|refine ef ?_ _|refine Below.drew ?_))⟩
 .obtain⟨k,l,n,p,q,s,u,t⟩:=r
  show aj prog 219 #[bx,.iface 246 (aG #[k,l,n,p,q,s,iv,aw t])] w _
  go_in;go_wp2_with fail
  refine aH c.o ?_;go_upto_region 2 with fail
  go_region
  go_upto_region 5 with fail
  go_region
  go_wp2
  go_end0
  exact⟨rfl,g.o _ (by repeat (first|exact aO _ _|refine ef ?_ _|refine Below.drew ?_))⟩
def Vk{i:Nat}{m:CT}{v:gL}(h:fM τ w i m v)(p:v.up=true)(s q:Int)(iv:ah):aj prog 219 #[m.bx,(cd.stop s q).val iv] w λe w'=>e=ax (aM #[])/\fZ i m.bx (dD v (.stop s q)) τ w w':=by
 have A:=au (vK h);rw[p]at A;have B:dD v (.stop s q)={v with q:=dy v.q s q}:=by
  unfold dD;rw[aI p]
 rw[B];have⟨u0,a⟩:=aD (((w.alloc (aB #[an ar 0,an ar 0,an ar 0] 238 (0,0))).alloc (aB #[an ar 0,an ar 0,an ar 0,an ar 0,an ar 0,aA ByteArray.empty,an ar 0,an ar 0,aw false,an ar 0,aA ByteArray.empty] 240 (0,0))).alloc (aB #[s,q] 248 (0,0)));have⟨u,b⟩:=aD u0.drew.drew;have⟨b1,r,d⟩:=dt a;have f:((w.alloc (aB #[an ar 0,an ar 0,an ar 0] 238 (0,0))).alloc (aB #[an ar 0,an ar 0,an ar 0,an ar 0,an ar 0,aA ByteArray.empty,an ar 0,an ar 0,aw false,an ar 0,aA ByteArray.empty] 240 (0,0))).heap.size=w.heap.size+1+1:=by simp
 rw[f]at b1 d;have g:ai w w u:=by
  rw[b,a]
  repeat (first|exact aO _ _|refine Below.drew ?_|refine ef ?_ _)
 have hs:=h.same g;have⟨E,m1,h1,h2,C⟩:=id hs;have t:=h1.c;have j:u.heap[w.heap.size+1+1]? =_:=(show u.heap=u0.heap by rw[b];rfl)▸b1;have k:=au (show∀y,pA y m1.qp m1.qb m1.qg (dy v.q s q)->aQ (m1.qp::m1.qb::m1.qg.toList) u.drew y->fZ i m.bx {v with q:=dy v.q s q} τ w y fromλy l n=>by
  have F:=h1.queue l ((aQ.refl _ u).drew.trans n) (.inl rfl);obtain⟨x,m2,j1,j2,G⟩:=F;exact⟨x,m2,j1,j2.trans h2,C.trans G⟩)
 have z:=au (show aj prog 222 #[m1.qp,s,q] u.drew λe w'=>e=ax ((v.q.length:Int)-(dy v.q s q).length:Int)/\pA w' m1.qp m1.qb m1.qg (dy v.q s q)/\aQ (m1.qp::m1.qb::m1.qg.toList) u.drew w' from adH (h1.q.bH ((aQ.refl ([]:List Nat) u).drew) (by simp) (by simp) (by simp)) s q);rw[h2]at t;have c6:=aF t 6 rfl;have⟨J,d1⟩:=dk j;have H:=au (show u=(((w.alloc (aB #[an ar 0,an ar 0,an ar 0] 238 (0,0))).alloc (aB #[an ar 0,an ar 0,an ar 0,an ar 0,an ar 0,aA ByteArray.empty,an ar 0,an ar 0,aw false,an ar 0,aA ByteArray.empty] 240 (0,0))).alloc (aB #[s,q] 248 (0,0))).drew.drew by rw[b,a]);generalize fZ i m.bx {v with q:=dy v.q s q} τ w=Q at*;generalize m1.qp=qp at*;generalize m.bx=bx at*
 show aj prog 219 #[bx,.iface 248 (aG #[s,q])] w _
 clear h p B a b b1 r d f g h1 h2 C t j hs;go_in;go_wp2_with fail
 refine aH A.o ?_;go_upto_region 2 with fail
 go_region
 go_upto_region 5 with fail
 go_region
 go_upto_region 9 with fail
 rw[<-H.o]
 go_still_tail 8,(by kernel_rfl)
 go_wp2_with fail
 refine z.m ?_;rintro e y ⟨rfl,l,n⟩;have I:=au (k.o y l n);clear l n;go_wp2
 go_end0
 exact⟨rfl,I.o⟩
def YG(w:ae):(zeroValue 219).run prog w=.ok sgZ w:=by kernel_rfl
def Rx(p:ah)(e:Int)(w:ae):(Instr.field 219 (aG #[p,(e:Int)]) 0).run prog w=.ok p w:=by kernel_rfl
attribute [go_sem] Rx
def NA.look{o:Option ah}{x:Option SB}(h:NA τ w o x):∃a e,o.getD sgZ=aG #[aL a,an ar e]/\EJ τ w (aL a) (x.bind SB.g):=by
 cases x with
 |none=>rw[show o=none from h];exact⟨none,0,rfl,rfl⟩
 |some x=>
  obtain⟨f,c,b⟩:=h;have⟨a,d,_⟩:=b.ptr;subst d;exact⟨a,x.e,by rw[c];rfl,b⟩
def fM.aR{i:Nat}{m:CT}{v:gL}(h:fM τ w i m v){s:Int}(b:ld s):∃a e,EJ τ w (aL a) (lL v s)/\∀y,y.heap[m.sb]? =w.heap[m.sb]? ->
 (Instr.lookup 98 (.map (some m.sb)) s false).run prog y=.ok (aG #[aL a,an ar e]) y:=by
 have⟨F,n,c,_,d⟩:=h.s.m;have⟨a,e,f,j⟩:=(d s).look;have k:lL v s=(v.QU.find? (·.s==s)).bind SB.g:=by
  unfold lL;cases v.QU.find? (·.s==s)<;>rfl
 exact⟨a,e,by rw[k];exact j,λy l=>by
  have:=(c.same l).look (t:=98) underlying98 YG b;rw[f]at this;exact this⟩
def YH{i:Nat}{m:CT}{v:gL}(h:fM τ w i m v)(W:v.up=true)(a:cf)(iv:ah)(ht:a.text.size<=maxLen)(hw:a.word.size<=maxLen)(G:ld a.aR):aj prog 219 #[m.bx,(cd.ask a).val iv] w λe w'=>e=ax (aM #[])/\fZ i m.bx (dD v (.ask a)) τ w w':=by
 have HU:=au (vK h);rw[W]at HU;have⟨u0,l⟩:=aD ((w.alloc (aB #[an ar 0,an ar 0,an ar 0] 238 (0,0))).alloc (aB #[a.slot,a.query,a.aR,a.seq,a.aW,aA a.text,a.k,a.batch,aw a.first,a.jk,aA a.word] 240 (0,0)));have⟨u,j⟩:=aD u0.drew;have⟨_,b1,bg0,H⟩:=rZ l;have I:ai w w u:=by
  rw[j,l]
  repeat (first|exact aO _ _|refine Below.drew ?_|refine ef ?_ _)
 have hs:=h.same I;have⟨τ1,m1,h1,h2,h3⟩:=id hs;have⟨pa,ge,J,K⟩:=h1.aR G;have⟨ga,L,p⟩:=J.ptr;simp only[Value.pointer.injEq]at L;subst L;have F:=h1.c;have n:u.heap[w.heap.size+1]? =_:=(show u.heap=u0.heap by rw[j];rfl)▸b1;have M:=(show u.heap.size=u0.heap.size by rw[j];rfl)▸H;have⟨B,X⟩:= @aD Bool (nG a&&((a.aW==v.aW)&&(decide (0<a.aW)&&pa.isSome)));have HQ0:=au (show B=false->∀y,ai u u y->fZ i m.bx (dD v (.ask a)) τ w y fromλd y hy=>by
  have:dD v (.ask a)=v:=by
   unfold dD;rw[aI W];simp only;rw[aC];rintro⟨p1,p2,N,p4⟩;rw[X,p1,p,p4,decide_eq_true N]at d;simp[p2]at d
  rw[this];exact hs.jt hy)
 have Wq:=au (show B=true->∀wc z y f,ai u u wc->pA z m1.qp m1.qb f (jA v.q a)->aQ (m1.qp::m1.qb::m1.qg.toList) wc z->(f=m1.qg∨∃x,f=some x/\wc.heap.size<=x)->ai z z y->fZ i m.bx (dD v (.ask a)) τ w y fromλd wc z y f O Y Z k4 k5=>by
  have:dD v (.ask a)={v with q:=jA v.q a}:=by
   unfold dD;rw[aI W];simp only;rw[X]at d;simp only[cV,ei,beq_iff_eq]at d;rw[aI ⟨d.1,d.2.1,d.2.2.1,by rw[<-p];exact d.2.2.2⟩]
  rw[this];refine fZ.jt ?_ k5;have q0:=h1.fr (P:=λ_=>False) (Fr.of_below O _ _ .keep) (λ_ _ h=>h) (λh=>h);have q1:=q0.queue Y Z k4;obtain⟨τ2,m2,j1,j2,j3⟩:=q1;exact⟨τ2,m2,j1,j2.trans h2,(h3.trans (Fr.of_below O _ _ .keep)).trans j3⟩)
 have⟨t,g⟩:=aK (show∀wc,ai u u wc->aj prog 221 #[m1.qp,a.val] wc λe w'=>e=ax (aw (lA v.q a))/\∃f,pA w' m1.qp m1.qb f (jA v.q a)/\aQ (m1.qp::m1.qb::m1.qg.toList) wc w'/\(f=m1.qg∨∃x,f=some x/\wc.heap.size<=x)fromλwc b=>adC (h1.q.bH (ch b) (by simp) (by simp) (by simp)) a) (show∀y,aj prog 115 #[(cd.ask a).val ()] y λe w'=>e=ax (aw (nG a))/\ai y y w' fromλy=>JJ (.ask a) _ y ⟨_,_,_,rfl⟩ ⟨ht,hw⟩);have T:=λx=>(bX u x).block _ h1.s.lt
 have U:=λx=>K _ (T x)
 rw[h2]at F;have⟨HC,HZ,V⟩:=aX (show∀wc,ai u u wc->wc.heap[m.bx]? =_/\wc.heap[w.heap.size+1]? =_ fromλwc d=>⟨(ch d).at F (by simp),(ch d).at n (by simp)⟩) (show u=((w.alloc (aB #[an ar 0,an ar 0,an ar 0] 238 (0,0))).alloc (aB #[a.slot,a.query,a.aR,a.seq,a.aW,aA a.text,a.k,a.batch,aw a.first,a.jk,aA a.word] 240 (0,0))).drew by rw[j,l]) X;generalize fZ i m.bx (dD v (.ask a)) τ w=Q at*;generalize nG a=b0 at*;generalize jA v.q a=L' at*;generalize lA v.q a=pb at*;clear X hs h1 h2 h3 I W j l h J K p b1 bg0 H ht hw G T;generalize m1.qp=qp at*;generalize m1.qb=qb at*;generalize m1.qg=qg at*;generalize m1.sb=sb at*;generalize m1.kv=kv at*;generalize m1.dp=dp at*;generalize m.bx=bx at*;obtain⟨slot,query,aR,seq,aW,text,k,batch,first,jk,word⟩:=a;simp only at*;have c1:=aF F 1 rfl;have c5:=aF F 5 rfl;have pl:=az F;have⟨ab,A⟩:=aD (w.heap.size+1);have HAB:=au A;rw[<-A]at n M HC;have⟨d0,d1,d2,d3,d4,d5,d6,d7,d8,d9,d10⟩:=Fk n
 show aj prog 219 #[bx,.iface 240 (aG #[slot,query,aR,seq,aW,aA text,k,batch,aw first,jk,aA word])] w _
 have⟨g,t⟩:=aK (show∀y,aj prog 115 #[.iface 240 (aG #[slot,query,aR,seq,aW,aA text,k,batch,aw first,jk,aA word])] y λe w'=>e=ax (aw b0)/\ai y y w' from g.o) (show∀wc,ai u u wc->aj prog 221 #[qp,aG #[slot,query,aR,seq,aW,aA text,k,batch,aw first,jk,aA word]] wc λe w'=>e=ax (aw pb)/\∃f,pA w' qp qb f L'/\aQ (qp::qb::qg.toList) wc w'/\(f=qg∨∃x,f=some x/\wc.heap.size<=x)from t.o);generalize v.aW=ve at*;clear F n A;go_in;go_wp2_with fail
 refine aH HU.o ?_;go_upto_region 2 with fail
 go_region
 go_upto_region 5 with fail
 rw[<-HZ.o,<-HAB.o];go_cut [84] (λr wc=>r=aw B/\ai u u wc)
 case first=>
  cases b0
  .go_wp2_with fail
   refine cD (by kernel_rfl) (by kernel_rfl) ?_
   repeat (go_big_quiet_step (first|(go_at_call 115;exact cH (g.o _))|fail))
   refine eV ?_;rintro _ ⟨yy,rfl⟩;go_wp2;go_meet;exact⟨by rw[V.o];rfl,bX _ _⟩
  .cases p2:(aW==ve)
   .go_wp2_with fail
    refine cD (by kernel_rfl) (by kernel_rfl) ?_
    repeat (go_big_quiet_step (first|(go_at_call 115;exact cH (g.o _))|fail))
    refine eV ?_;rintro _ ⟨yy,rfl⟩;go_wp2;go_meet;exact⟨by rw[V.o,p2];rfl,bX _ _⟩
   .cases N:decide (0<aW)
    .go_wp2_with fail
     refine cD (by kernel_rfl) (by kernel_rfl) ?_
     repeat (go_big_quiet_step (first|(go_at_call 115;exact cH (g.o _))|fail))
     refine eV ?_;rintro _ ⟨yy,rfl⟩;go_wp2;go_meet;exact⟨by rw[V.o,p2,N];rfl,bX _ _⟩
    .obtain _|pa:=pa
     .go_wp2_with fail
      refine cD (by kernel_rfl) (by kernel_rfl) ?_
      repeat (go_big_quiet_step (first|(go_at_call 115;exact cH (g.o _))|fail))
      refine eV ?_;rintro _ ⟨yy,rfl⟩;go_wp2;go_meet;exact⟨by rw[V.o,p2,N];rfl,bX _ _⟩
     .go_wp2_with fail
      refine cD (by kernel_rfl) (by kernel_rfl) ?_
      repeat (go_big_quiet_step (first|(go_at_call 115;exact cH (g.o _))|fail))
      refine eV ?_;rintro _ ⟨yy,rfl⟩;go_wp2;go_meet;exact⟨by rw[V.o,p2,N];rfl,bX _ _⟩
 case rest=>
  obtain⟨rfl,b⟩:=hcut;have⟨C,E⟩:=HC.o wc b;have pz:=az C;have gz:=az E;have z6:=aF C 6 rfl;have⟨d0,d1,d2,d3,d4,d5,d6,d7,d8,d9,d10⟩:=Fk E;have⟨HPW,K1,K0⟩:=aX (t.o wc.drew b.drew) (λd z y f=>Wq.o d wc.drew z y f b.drew) (λd y (hy:ai wc wc y)=>HQ0.o d y (b.trans (hy.mono b.size)));clear C E c1 c5 pl b U M;cases B
  .have K2:=au (K0.o rfl)
   go_wp2
   go_end0
   exact⟨rfl,K2.o _ (by repeat (first|exact aO _ _|refine ef ?_ _|refine Below.drew ?_))⟩
  .have K2:=au (K1.o rfl)
   go_upto_region 6 with fail
   go_still_tail 5,(by kernel_rfl)
   go_wp2_with fail
   refine HPW.m ?_;rintro e z ⟨rfl,f,O,Y,Z⟩;have K3:=au (λy=>K2.o z y f O Y Z);clear O Y Z;go_wp2
   go_end0
   exact⟨rfl,K3.o _ (by repeat (first|exact aO _ _|refine ef ?_ _|refine Below.drew ?_))⟩
variable{m:CT}
def abG{v:gL}(h:fM τ w i m v)(x:cd)(iv:ah)(d:∀a,x=.ask a->a.text.size<=maxLen/\a.word.size<=maxLen/\ld a.aR):aj prog 219 #[m.bx,x.val iv] w λe w'=>e=ax (aM #[])/\fZ i m.bx (dD v x) τ w w':=by
 cases hu:v.up with
 |false=>exact Vj h hu x iv
 |true=>
  cases x with
  |eu a b=>exact EL h hu _ iv (.inl ⟨a,b,rfl⟩)
  |grant a b c=>exact Rw h hu a b c iv
  |ask a=>have⟨f,g,j⟩:=d a rfl;exact YH h hu a iv f g j
  |dj r=>exact EL h hu _ iv (.inr ⟨r,rfl⟩)
  |stop a b=>exact Vk h hu a b iv
def SF(i bx:Nat)(v:gL)(τ:cj)(w:ae)(e:ak)(w':ae):Prop:=∃val,e=ax val/\eH w w' val (dO v).2/\fZ i bx (dO v).1 τ w w'
def Vl{v:gL}(h:fM τ w i m v)(a:v.up=false):aj prog 220 #[m.bx] w (SF i m.bx v τ w):=by
 have c:=au (show SF i m.bx v τ w (ax ()) w by
  have:dO v=(v,[]):=by unfold dO;rw[aC (by simp[a])]
  refine⟨_,rfl,by rw[this];exact eH.nil _ _,by rw[this];exact h.same (aO _ _)⟩)
 have b:=au (vK h);rw[a]at b;generalize SF i m.bx v τ w=Q at*;generalize m.bx=bx at*;clear h a;go_in;go_wp2_with fail
 refine aH b.o ?_;go_wp2;exact c.o
def Ry{v:gL}(h:fM τ w i m v)(b:v.up=true)(p:¬0<v.aW):aj prog 220 #[m.bx] w (SF i m.bx v τ w):=by
 have a:dO v=(v,[⟨0,.eu v.id v.life⟩]):=by unfold dO;rw[aI b,aC p]
 have q:=au (show∀y z,ai w w y->z=(y.alloc (aB #[an ar 0,(cd.eu v.id v.life).val ()] 187 (0,0))).drew->SF i m.bx v τ w (ax (av (some ⟨y,0,none⟩) 1 1)) z fromλy z f g=>by
  refine⟨_,rfl,?_,?_⟩
  .rw[a]
   exact eH.one (l:=⟨0,.eu v.id v.life⟩) (iv:=av none 0 0) (by rw[g];exact a_ _ _) f.size trivial ⟨_,_,_,rfl⟩
  .rw[a]
   refine h.same ?_;rw[g];exact(ef f _).drew)
 have j:=au (vK h);rw[b]at j;have r:=au (show∀n,aj prog 39 #[m.bx] (w.drewN n) λe w'=>e=ax v.life/\w.drewN n=w' fromλn=>by
  have⟨s,x,t,u,A⟩:=h.same (bo w n).aJ;have:=F_ t;rw[u]at this;exact this)
 have d:=au (show aj prog 39 #[m.bx] w.drew λe w'=>e=ax v.life/\w.drew=w' from r.o 1);have k:=h.c;have⟨B,C⟩:=dk k;generalize SF i m.bx v τ w=Q at*;generalize m.bx=bx at*;generalize v.id=id at*;generalize v.life=life at*;generalize v.aW=ep at*;clear h b a k;go_in;go_wp2_with fail
 refine aH j.o ?_;go_upto_region 9 with fail
 go_region_law (first
  |(refine dm (by rfl) 39 func39 (by kernel_rfl) (by kernel_rfl) (by rfl) _ (by kernel_rfl) d.o ?_;rintro e z ⟨rfl,rfl⟩;refine⟨_,rfl,?_⟩)
  |fail)
 all_goals
  go_wp2_with fail
  go_ret;exact q.o w _ (aO _ _) rfl
def Vm{v:gL}(h:fM τ w i m v)(b:v.up=true)(x:0<v.aW)(k:v.q=[]):aj prog 220 #[m.bx] w (SF i m.bx v τ w):=by
 have d:dO v=(v,[⟨0,.eu v.id v.life⟩]):=by unfold dO;rw[aI b,aI x,k]
 have A:=au (show∀y z,ai w w y->z=(y.alloc (aB #[an ar 0,(cd.eu v.id v.life).val ()] 187 (0,0))).drew->SF i m.bx v τ w (ax (av (some ⟨y,0,none⟩) 1 1)) z fromλy z f s=>by
  refine⟨_,rfl,?_,?_⟩
  .rw[d]
   exact eH.one (l:=⟨0,.eu v.id v.life⟩) (iv:=av none 0 0) (by rw[s];exact a_ _ _) f.size trivial ⟨_,_,_,rfl⟩
  .rw[d]
   refine h.same ?_;rw[s];exact(ef f _).drew)
 have t:=au (vK h);rw[b]at t;have B:=au (show aj prog 223 #[m.qp] w λe w'=>e=ax (aM #[aG #[an ar 0,an ar 0,an ar 0,an ar 0,an ar 0,aA ByteArray.empty,an ar 0,an ar 0,aw false,an ar 0,aA ByteArray.empty],aw false])/\ai w w w' from Xd (k▸h.q));have C:=au (show∀y,ai w w y->aj prog 39 #[m.bx] y λe w'=>e=ax v.life/\y=w' fromλy f=>by
  have⟨E,K,F,G,L⟩:=h.same f;have:=F_ F;rw[G]at this;exact this)
 have j:=h.c;have H:=aF j 1 rfl;have I:=aF j 6 rfl;have J:=au j;generalize SF i m.bx v τ w=Q at*;generalize m.qp=qp at*;generalize m.bx=bx at*;generalize v.id=id at*;generalize v.life=life at*;generalize v.aW=ep at*;clear h b d j k;go_in;go_wp2_with fail
 refine aH t.o ?_;go_wp2_with fail
 refine B.m ?_;rintro e y ⟨rfl,f⟩;have⟨u,b⟩:=aD (y.alloc (aB #[an ar 0,an ar 0,an ar 0,an ar 0,an ar 0,aA ByteArray.empty,an ar 0,an ar 0,aw false,an ar 0,aA ByteArray.empty] 240 (0,0)));have a:ai w w u:=by rw[b];exact ef f _
 have g:=(ch a).at J.o (by simp);have M:=aF g 0 rfl;have⟨n,p,r⟩:=aX (C.o u.drew a.drew) a b;clear f b a g H I;go_upto_region 9 with fail
 rw[<-r.o];go_region_law (first
  |(refine dm (by rfl) 39 func39 (by kernel_rfl) (by kernel_rfl) (by rfl) _ (by kernel_rfl) n.o ?_;rintro e z ⟨rfl,rfl⟩;refine⟨_,rfl,?_⟩)
  |fail)
 all_goals
  go_wp2_with fail
  go_ret;exact A.o u _ p.o rfl
def EJ.gd{v:ah}{o:Option (List gO)}(h:EJ τ w v o):∀ns,o=some ns->Kf ns:=by
 rintro ns rfl;obtain⟨_,_,_,_,_,_,_,h,_⟩:=h;exact h
def NG{i:Nat}{m:CT}{v:gL}(h:fM τ w i m v)(d:v.up=true)(e:0<v.aW){a:cf}{q:List cf}(f:v.q=a::q){b u:ae}(h1:pA b m.qp m.qb m.qg q)(h2:aQ (m.qp::m.qb::m.qg.toList) w b)(c:ai b b u):fZ i m.bx {v with q:=q} τ w u:=
 (h.queue h1 h2 (.inl rfl)).jt c
abbrev Wy(bx ab sb:Nat)(aR:Int)(text:ByteArray)(k batch:Int)(first:Bool)(jk:Int)(word:ByteArray)(y:ae):Prop:=
 y.cell? ⟨bx,5,none⟩=some (.map (some sb))/\y.cell? ⟨ab,2,none⟩=some (.int .i64 aR)/\y.cell? ⟨ab,5,none⟩=some (.string text)/\y.cell? ⟨ab,6,none⟩=some (.int .i64 k)/\y.cell? ⟨ab,7,none⟩=some (.int .i64 batch)/\y.cell? ⟨ab,8,none⟩=some (.bool first)/\y.cell? ⟨ab,9,none⟩=some (.int .i64 jk)/\y.cell? ⟨ab,10,none⟩=some (.string word)
def Wy.of{bx f sb:Nat}{a:Int}{text:ByteArray}{k b:Int}{first:Bool}{c:Int}{d:ByteArray}{y z:ae}(h:Wy bx f sb a text k b first c d y)(g:z.heap[bx]? =y.heap[bx]?)(e:z.heap[f]? =y.heap[f]?):Wy bx f sb a text k b first c d z:=by
 obtain⟨i,j,l,m,n,o,p,q⟩:=h;exact⟨(cU g).trans i,(cU e).trans j,(cU e).trans l,(cU e).trans m,(cU e).trans n,(cU e).trans o,(cU e).trans p,(cU e).trans q⟩
def Wy.set{bx f sb:Nat}{a:Int}{text:ByteArray}{k b:Int}{first:Bool}{c:Int}{d:ByteArray}{y:ae}(h:Wy bx f sb a text k b first c d y){g:Nat}(i:bx≠g)(l:f≠g)(j:Nat)(u:ah):Wy bx f sb a text k b first c d (y.setCell ⟨g,j,none⟩ u):=
 h.of (Below.heap_setCell _ _ _ _ (by first|exact i|exactλe=>i e.symm)) (Below.heap_setCell _ _ _ _ (by first|exact l|exactλe=>l e.symm))
def akg(bx ab:Nat)(id ep aR:Int)(text:ByteArray)(k batch:Int)(first:Bool)(jk:Int)(word:ByteArray)(slot query seq:Int)(R:lr)(Q:ak->ae->Prop)(u:ae):Prop:=
 ∃sb pa ge,u.cell? bx=id/\u.cell? ⟨bx,1,none⟩=ep/\u.cell? ⟨bx,5,none⟩=some (.map (some sb))/\bx<u/\
  (∀y,ai u u y->(Instr.lookup 98 (.map (some sb)) aR false).run prog y=.ok (aG #[aL pa,an ar ge]) y)/\
  (∀y,ai u u y->aj prog 224 #[aL pa,aA text,an ar k,aw first,aG #[(jk:Int),aA word],an ar batch] y λe w'=>∃a n c,e=ax (aM #[av a n c,aw R.fin])/\(∃g,Seg w' 83 2 g (av a n c) (dT R.items) R.items.length/\∀x,g=some x->y.heap.size<=x)/\ai y y w')/\
  (∀y4 y5 z a n c,ai u u y4->(∃g,Seg y4 83 2 g (av a n c) (dT R.items) R.items.length/\∀x,g=some x->u.heap.size<x)->
   y5=(y4.setCell ⟨u,6,none⟩ (av a n c)).setCell ⟨u,7,none⟩ (aw R.fin)->z=y5.alloc (aB #[an ar 0,.iface 246 (aG #[slot,query,aR,seq,id,ep,av a n c,aw R.fin])] 187 (0,0))->Q (ax (av (some ⟨y5,0,none⟩) 1 1)) z)
def Vn{bx qp qb:Nat}{qg:Option Nat}{q:List cf}{Q:ak->ae->Prop}{R:lr}{id E slot b a f s k d h:Int}{text j:ByteArray}{first:Bool}{w:ae}
 (c1:w.cell? ⟨bx,1,none⟩=E) (c6:w.cell? ⟨bx,6,none⟩=qp) (pl:bx<w) (hep:0<E)
 (HU:Hid (aj prog 23 #[bx] w λe w'=>e=ax (aw true)/\w=w'))
 (HP:Hid (aj prog 223 #[qp] w λe w'=>e=ax (aM #[aG #[slot,b,a,f,s,aA text,k,d,aw first,h,aA j],aw true])/\pA w' qp qb qg q/\aQ (qp::qb::qg.toList) w w'))
 (HW:Hid (∀A u,pA A qp qb qg q->aQ (qp::qb::qg.toList) w A->ai A A u->akg bx A id E a text k d first h j slot b f R Q u)):
 aj prog 220 #[bx] w Q:=by
 go_in;go_wp2_with fail
 refine aH HU.out ?_;go_wp2_with fail
 refine HP.out.mono ?_;rintro e A ⟨rfl,k1,k2⟩;have⟨u,F⟩:=aD (A.alloc (aB #[slot,b,a,f,s,aA text,k,d,aw first,h,aA j] 240 (0,0)));have⟨v,bg,r⟩:=dt F;have⟨sb,pa,ge,c0,O,c5,pu,T,U,V⟩:=HW.out A u k1 k2 bg.aJ;have⟨c,G⟩:=aD A.heap.size;rw[<-G]at v r;have⟨d0,d1,d2⟩:=oN v;have d3:=aF v 3 rfl;have d5:=aF v 5 rfl;have d6:=aF v 6 rfl;have d7:=aF v 7 rfl;have d8:=aF v 8 rfl;have d9:=aF v 9 rfl;have W:=aF v 10 rfl;have HC6:=au (show∀y,ai u u y->y.cell? bx=id/\y.cell? ⟨bx,1,none⟩=E/\y.cell? c=slot/\y.cell? ⟨c,1,none⟩=b/\y.cell? ⟨c,2,none⟩=a/\y.cell? ⟨c,3,none⟩=f fromλy l=>
  ⟨(l.cell (p:=⟨bx,0,none⟩) pu).trans c0,(l.cell (p:=⟨bx,1,none⟩) pu).trans O,(l.cell (p:=⟨c,0,none⟩) r).trans d0,(l.cell (p:=⟨c,1,none⟩) r).trans d1,(l.cell (p:=⟨c,2,none⟩) r).trans d2,(l.cell (p:=⟨c,3,none⟩) r).trans d3⟩)
 have⟨HUU,HAB,HLK,Mk,X⟩:=iI F G T U V;clear k1 k2 F v bg T U V G HW c1 c6 pl HP HU;go_upto_region 6 with fail
 rw[<-HUU.o,<-HAB.o];go_region_held3 (λy=>y.cell? bx=id/\y.cell? ⟨bx,1,none⟩=E/\y.cell? c=slot/\y.cell? ⟨c,1,none⟩=b/\y.cell? ⟨c,2,none⟩=a/\y.cell? ⟨c,3,none⟩=f) (exact HC6.o _ (by repeat (first|exact aO _ _|refine ef ?_ _|refine Below.drew ?_))) (fail)
 have⟨z,hz⟩:=aD ((u.alloc (aB #[slot,b,a,f,id,E,(),aw false] 246 (0,0))).drew);have t:ai u u z:=by rw[hz];exact((aO _ _).alloc (aP _) _).drew
 have H:z.heap[u.heap.size]? =some (aB #[slot,b,a,f,id,E,(),aw false] 246 (0,0)):=by rw[hz];exact a_ _ _
 have I:∀y,ai u u y->Wy bx c sb a text k d first h j y:=λy l=>by
  refine⟨(l.cell (p:=⟨bx,5,none⟩) pu).trans c5,(l.cell (p:=⟨c,2,none⟩) r).trans d2,(l.cell (p:=⟨c,5,none⟩) r).trans d5,(l.cell (p:=⟨c,6,none⟩) r).trans d6,(l.cell (p:=⟨c,7,none⟩) r).trans d7,(l.cell (p:=⟨c,8,none⟩) r).trans d8,(l.cell (p:=⟨c,9,none⟩) r).trans d9,(l.cell (p:=⟨c,10,none⟩) r).trans W⟩
 have K0:=au (I z.drew t.drew);have hk1:=HLK.o z.drew t.drew;have Mh:=au (Mk.o z.drew t.drew);have⟨B,J⟩:=aD u.heap.size;have rz:=az H;have Y:bx≠B:=by omega
 have Z:c≠B:=by omega
 have⟨HZ,Xa,F4,I4,Ww,K⟩:=eC hz H J t.drew I Y;have L:=au Z;rw[<-J]at rz Xa X;clear hz t H J d0 d1 d2 d3 d5 d6 d7 d8 d9 W c0 O c5 pu r I Y Z;go_upto_region 7 with fail
 rw[<-HZ.o,<-F4.o];go_region_held3 (λw'=>w'.cell? ⟨bx,5,none⟩=some (.map (some sb))/\w'.cell? ⟨c,2,none⟩=a/\w'.cell? ⟨c,5,none⟩=some (aA text)/\w'.cell? ⟨c,6,none⟩=k/\w'.cell? ⟨c,7,none⟩=d/\w'.cell? ⟨c,8,none⟩=some (aw first)/\w'.cell? ⟨c,9,none⟩=h/\w'.cell? ⟨c,10,none⟩=some (aA j)) (first|(with_reducible exact K0.o)|(with_reducible exact K1.o)|(with_reducible exact Wy.set K1.o K.o L.o 6 _)|(with_reducible exact Wy.set (Wy.set K1.o K.o L.o 6 _) K.o L.o 7 _)) (first
  |(go_at_call 224;refine Mh.m ?_;rintro e M ⟨va,vn,vc,rfl,ng,nb⟩;have N:=I4.o.trans (nb.mono I4.o.size);have K1:=au (Ww.o M N);have n:=(ch ((aO z z).drew.trans nb)).at Xa.o (by simp);have ry:=az n;have r6:M.cell? ⟨B,6,none⟩=():=(aF n _ rfl);have r7:M.cell? ⟨B,7,none⟩=some (aw false):=(aF n _ rfl);have g6:M.frozen? ⟨B,6,none⟩=false:=(bB n _);have g7:M.frozen? ⟨B,7,none⟩=false:=(bB n _);have N1:=au ng;have Uf:=au N;have HRY:=au n;clear ng nb N n))
 have⟨y5,C⟩:=aD ((M.setCell ⟨B,6,none⟩ (av va vn vc)).setCell ⟨B,7,none⟩ (aw R.fin));have h5:y5.heap[B]? =some (aB #[slot,b,a,f,id,E,av va vn vc,aw R.fin] 246 (0,0)):=by
  rw[C];have e1:=aE (i:=6) HRY.o (av va vn vc);simp only[dF,cC,ct]at e1;have e2:=aE (i:=7) e1 (aw R.fin);simpa using e2
 have⟨q0,q1,q2,q3,q4,q5,q6,q7⟩:=Ou h5;have HQ:=au (X.o M y5 _ va vn vc (by rw[F4.o];exact Uf.o) (by
  have⟨g,n1,n2⟩:=N1.o;refine⟨g,n1,λx hx=> ?_⟩;have h1:=n2 x hx;have h3:z.heap.size<=z.drew.heap.size:=aP _;omega) C rfl)
 have H5:=au C;clear C h5 hk1 r6 r7 g6 g7 ry;go_upto_region 8 with fail
 rw[<-H5.o];go_wp2;exact HQ.o
def Vo{i:Nat}{m:CT}{v:gL}(h:fM τ w i m v)(K:v.up=true)(M:0<v.aW){a:cf}{q:List cf}(L:v.q=a::q)(N:a.text.size<=1000/\a.batch<=1000/\ld a.aR):aj prog 220 #[m.bx] w (SF i m.bx v τ w):=by
 have E:dO v=({v with q:=q},[⟨0,.dj (jz v a)⟩]):=by unfold dO;rw[aI K,aI M,L]
 have HU:=Lib.hid (vK h);rw[K]at HU;have HP:=Lib.hid (OX (L▸h.q));have O:=h.c;have c1:=aF O 1 rfl;have c6:=aF O 6 rfl;have pl:=az O;have HW:=Lib.hid (show∀t u,pA t m.qp m.qb m.qg q->aQ (m.qp::m.qb::m.qg.toList) w t->ai t t u->∃m2 d f ge,m2.bx=m.bx/\fM d u i m2 {v with q:=q}/\Fr (e_ i) τ d w u/\EJ d u (aL f) (lL v a.aR)/\
  ∀y,y.heap[m2.sb]? =u.heap[m2.sb]? ->(Instr.lookup 98 (.map (some m2.sb)) a.aR false).run prog y=.ok (aG #[aL f,an ar ge]) y fromλt u A B C=>by
  have⟨d,m2,j1,j2,F⟩:=NG h K M L A B C;have⟨f,ge,e1,e2⟩:=j1.aR N.2.2;exact⟨m2,d,f,ge,j2,j1,F,e1,e2⟩)
 have HQ:=Lib.hid (show∀d m2 u p r z o g,m2.bx=m.bx->fM d u i m2 {v with q:=q}->Fr (e_ i) τ d w u->(∀W,lL v a.aR=some W->Kf W)->ai u u p->Seg p 83 2 g o (dT (jz v a).items) (jz v a).items.length->(∀x,g=some x->u.heap.size<x)->(∃b c n,o=av b c n)->
  r=(p.setCell ⟨u,6,none⟩ o).setCell ⟨u,7,none⟩ (aw (jz v a).fin)->z=r.alloc (aB #[an ar 0,(cd.dj (jz v a)).val o] 187 (0,0))->SF i m.bx v τ w (ax (av (some ⟨r,0,none⟩) 1 1)) z fromλd m2 u p r z o g A B C kd k4 k5 X k7 k8 Y=>by
  have G:aQ [u.heap.size] p r:=by rw[k8];exact(((aQ.refl [u.heap.size] p).setCell _ (by simp) _).setCell _ (by simp) _)
  have hz:aQ ([]:List Nat) r z:=by rw[Y];exact(aQ.refl _ _).alloc _
  have H:=G.trans (hz.mono (by simp));have Q:=k4.trans (H.below (by simp) k4.size);refine⟨_,rfl,?_,?_⟩
  .rw[E]
   have h5s:=bD k4.size G.size;have hws:=C.size;refine eH.one (l:=⟨0,.dj (jz v a)⟩) (iv:=o) (by rw[Y];exact a_ _ _) (by omega) ⟨⟨g,k5.bH H (λx I=>by have:=X x I;simp;omega),λx I=>by have:=X x I;omega⟩,λx I=> ?_⟩ (by obtain⟨b,c,n,e⟩:=k7;exact⟨_,_,_,e⟩);have h7:=Kq kd I;have:=nh h7.2.2;have:(48:Nat)<=maxLen:=by decide
   omega
  .rw[E]
   have⟨T,m3,j1,j2,F⟩:=B.same Q;exact⟨T,m3,j1,j2.trans A,C.trans F⟩)
 have HN:=Lib.hid (show∀d u f y,EJ d u (aL f) (lL v a.aR)->ai u u y->aj prog 224 #[aL f,aA a.text,an ar a.k,aw a.first,aG #[a.jk,aA a.word],an ar a.batch] y λe w'=>∃o g,e=ax (aM #[o,aw (jz v a).fin])/\Seg w' 83 2 g o (dT (jz v a).items) (jz v a).items.length/\(∀x,g=some x->y.heap.size<=x)/\ai y y w' fromλd u f y A B=>
  afp (A.fr (P:=λ_=>False) (Fr.of_below B _ _ .keep) (λh=>h)).v a.text a.k a.first (a.jk,a.word) a.batch N.1 N.2.1)
 have hp:=OX (L▸h.q);have J:=vK h;rw[K]at J;obtain⟨slot,query,aR,seq,aW,text,k,batch,first,jk,word⟩:=a;refine Vn (id:=v.id) (R:=jz v ⟨slot,query,aR,seq,aW,text,k,batch,first,jk,word⟩) c1 c6 pl M (Lib.hid J) (Lib.hid hp) (Lib.hid λt u A B C=> ?_);have⟨m2,d,f,ge,e1,e2,e3,Z,U⟩:=HW.out t u A B C;have j:=e2.c;rw[e1]at j;refine⟨m2.sb,f,ge,aF j _ rfl,aF j _ rfl,aF j _ rfl,az j,λy V=>U y (V.block _ e2.s.lt),λy V=> ?_,λp r z b n cc j1 j2 F j4=> ?_⟩
 .refine(HN.out d u f y Z V).mono ?_
  rintro e w' ⟨o,g,rfl,n1,n2,n3⟩;obtain⟨va,vc,rfl,_⟩:=n1.len;exact⟨_,_,_,rfl,⟨g,n1,n2⟩,n3⟩
 .obtain⟨g,j5,j6⟩:=j2
  exact HQ.out d m2 u p r z (av b n cc) g e1 e2 e3 Z.gd j1 j5 j6 ⟨_,_,_,rfl⟩ F j4
def abH{i:Nat}{m:CT}{v:gL}(h:fM τ w i m v)(c:∀a∈v.q,a.text.size<=1000/\a.batch<=1000/\ld a.aR):aj prog 220 #[m.bx] w (SF i m.bx v τ w):=by
 cases hu:v.up
 .exact Vl h hu
 .by_cases b:0<v.aW
  .cases hq:v.q with
   |nil=>exact Vm h hu b hq
   |cons a q=>exact Vo h hu b hq (c a (by rw[hq];simp))
  .exact Ry h hu b
def YI(c:aV)(id:Int)(i:Nat)(τ:cj)(w:ae)(e:ak)(w':ae):Prop:=
 ∃br m,e=ax (aM #[m.bx,an ar 0])/\fM br w' i m (qz c id)/\Fr (λ_=>False) τ br w w'
def YI.of{c:aV}{id:Int}{i:Nat}(l:∀k,k<w.heap.size->¬e_ i (τ k)){u m g n:ae}(B:ai w w u){p b:Nat}{cN:List jB}{j:cj}(hd:kV j m i p b 0 cN)(I:cN.map jB.v=vx c id)(M:∀k,k<u.heap.size->j k=τ k)(J:ai u u m)
 {kv:ah} (N:fU m g kv (fw c id)) (C:ai m m g) (K:n=g.alloc (aB #[id,an ar 0,aw false,kv,p,.map none,aL none] 101 (0,0))):
 ∃kg r,PF r n i g kv kg p b cN id 0 0 false (.map none) (aL none)/\∀e w',Ru i g kv kg p b cN id 0 r n e w'->e=ax (aM #[])/\YI c id i τ w (ax (aM #[g.heap.size,an ar 0])) w':=by
 have⟨kg,t,E⟩:=Own.Cs N;have x:jS cN=fw c id:=by
  have:jS cN=(cN.map jB.v).map (·.s):=by simp[jS]
  rw[this,I];simp[vx,Function.comp_def]
 have O:=B.size;have Q:=J.size;have Y:=C.size;have y:ai g g n:=by rw[K];exact(aO _ _).alloc (aP _) _
 have z:n.heap[g.heap.size]? =some (aB #[id,an ar 0,aw false,kv,p,.map none,aL none] 101 (0,0)):=by rw[K];exact a_ _ _
 have f:=C.trans (y.mono C.size);let T:cj:=eP (eP j m .keep) g (.M7 i)
 have F:Fr (λ_=>False) j T m n:=⟨f.os,f.tape,f.output,f.size,λq d=>by show eP _ _ _ q=_;rw[dZ (by omega),dZ d],λq d _=>f.block q d⟩;have G:aQ ([]:List Nat) g n:=aQ.of_below y;have a:=(B.trans (J.mono B.size)).trans (f.mono (bD O Q));have A:∀q,q<w.heap.size->T q=τ q:=λq d=>by
  show eP _ _ _ q=_
  rw[dZ (by omega),dZ (by omega),M q (by omega)]
 refine⟨kg,T,⟨z,?_,hd.fr F (λ_ _ h=>h) (λh=>h),?_,d_ (aP _),λq d=> ?_⟩,?_⟩
 .rw[x];exact t.bH G (by simp)
 .have:=ED c id
  have H:(jS cN).length=cN.length:=by simp[jS]
  rw[x]at H;omega
 .have H:=E q d
  have U:=t.lt q d
  show eP _ _ _ q=_
  rw[dZ U,d_ H]
 .rintro e w' ⟨br,V,W,X,rfl,L,o⟩
  refine⟨rfl,br,⟨g,kv,kg,p,b,cN,V,W,X,none⟩,rfl,?_,?_⟩
  .rw[I]at L
   exact L
  .refine⟨o.os.trans a.os,o.tape.trans a.tape,o.output.trans a.output,bD a.size o.size,λq d=> ?_,λq d _=> ?_⟩
   .rw[o.old q (bP d a.size),A q d]
   .rw[o.block q (bP d a.size) (by rw[A q d];exact l q d)]
    exact a.block q d
def afL(c:aV)(id:Int)(i:Nat)(τ:cj)(w:ae)(B:c.ok w)(hm:fX c=true)(h1:1<=id)(h2:id<=c.workers)(s:∀k,k<w.heap.size->¬e_ i (τ k)):aj prog 59 #[c.val,(id:Int)] w (YI c id i τ w):=by
 have⟨u,Y⟩:=aD (w.alloc (aB c.cells.toArray 25 (0,0)));have⟨Z,hl,W⟩:=aV.box Y;have⟨HN,HK,HW⟩:=aX (U6 c id i τ u (B.below W.aJ) hm h1 h2) (λy (hy:ai w w y)=>TH c id y (B.below hy)) (λ(J X y3:ae) (p b:Nat) (q:List jB) (r:cj)=> @YI.of τ w c id i s u J X y3 W.aJ p b q r);generalize YI c id i τ w=Q at*;have⟨MD,G,HDN⟩:=aX Z W.aJ (show∀e y,DnP c id i τ u e y->∃p b q r,e=ax (aM #[aL (some ⟨p,0,none⟩),an ar 0])/\kV r y i p b 0 q/\q.map jB.v=vx c id/\(∀k,k<u.heap.size->r k=τ k)/\ai u u y fromλe y h=>h);generalize DnP c id i τ u=R at*;obtain⟨K,L,C,M,d,f,j,l,aS,n,first,t,g,net⟩:=c;have⟨HU,HN'⟩:=aK (show u=w.alloc (aB #[K,L,d,f,j,l,aS,n,first,t,g,net] 25 (0,0))from Y) (show aj prog 85 #[aG #[K,L,d,f,j,l,aS,n,first,t,g,net],an ar id] u R from HN.o);generalize hks:fw ⟨K,L,C,M,d,f,j,l,aS,n,first,t,g,net⟩ id=ks at HK HW;have HK':=au (show∀y (hy:ai w w y),aj prog 86 #[aG #[K,L,d,f,j,l,aS,n,first,t,g,net],an ar id] y λe w'=>∃v,e=ax v/\fU y w' v ks/\ai y y w' from HK.o);have a:=aV.cellAt Z hl (aO _ _);have c0:=a 0 _ rfl;have c1:=a 1 _ rfl;have c2:=a 2 _ rfl;have c3:=a 3 _ rfl;have c4:=a 4 _ rfl;have c5:=a 5 _ rfl;have c6:=a 6 _ rfl;have c7:=a 7 _ rfl;have c8:=a 8 _ rfl;have c9:=a 9 _ rfl;have E:=a 10 _ rfl;have F:=a 11 _ rfl;clear Y W B Z a hks hm h1 h2 s
 show aj prog 59 #[aG #[K,L,d,f,j,l,aS,n,first,t,g,net],an ar id] w _
 go_in;go_upto_region 1 with fail
 rw[<-HU.o];go_wp2_with fail
 refine HN'.m ?_;intro e J N;obtain⟨p,b,q,r,rfl,O,T,U,x⟩:=HDN.o e J N;have a:=aV.cellAt MD.o hl x;clear c0 c1 c2 c3 c4 c5 c6 c7 c8 c9 E F N;have c0:=a 0 _ rfl;have c1:=a 1 _ rfl;have c2:=a 2 _ rfl;have c3:=a 3 _ rfl;have c4:=a 4 _ rfl;have c5:=a 5 _ rfl;have c6:=a 6 _ rfl;have c7:=a 7 _ rfl;have c8:=a 8 _ rfl;have c9:=a 9 _ rfl;have E:=a 10 _ rfl;have F:=a 11 _ rfl;have⟨HKY,HD1,HV1,HT1,HB1⟩:=iI (HK'.o J (G.o.trans (x.mono G.o.size))) O T U x;clear O T U x a;go_wp2_with fail
 refine HKY.m ?_;rintro e X ⟨kv,rfl,H,V⟩;have⟨y3,I⟩:=aD (X.alloc (aB #[(id:Int),an ar 0,aw false,kv,aL (some ⟨p,0,none⟩),.map none,aL none] 101 (0,0)));have⟨kg,τ3,z,A⟩:=HW.o J X y3 p b q r HD1.o HV1.o HT1.o HB1.o H V I;have⟨HBE,Mg,SE⟩:=aX (Vh z (by decide)) A I;obtain⟨ka,kc,rfl,_⟩:=Own.len H;clear H V I z A c0 c1 c2 c3 c4 c5 c6 c7 c8 c9 E F;go_upto_region 5 with fail
 rw[<-SE.o];go_wp2_with fail
 refine HBE.m ?_;intro e y N;obtain⟨rfl,hq⟩:=Mg.o e y N;clear N;go_wp2;exact hq
section
open Go.ChangeShapes Go.WideShapes Go.ChangeAt
theorem EM{C:Type}[Inhabited C](f:C->List ah)(sz:Nat)(F:C->Prop){H:Type}{enc:TypeId×ah->H}{W:ae}{T E:TypeId}{P:Program}{fuel:Nat}{cs:List ah}{x:DataW H×List MemPlace}
 (Q:P.underlying T=some (.slice E)) (M:P.cellsOf E=sz) (B:0<sz)
 (g:∀fuel cs x,DataW.trod enc P W 0 (λ_=>true) true fuel E cs=some x->∃r,cs=f r/\F r)
 (U:DataW.trod enc P W 0 (λ_=>true) true fuel T cs=some x):∃v xs,cs=[v]/\aT f sz W v xs/\∀x∈xs,F x:=by
 obtain⟨k,_⟩|⟨x,l,c,m,n,D,Pl,k,_,X,hm,t,_,G⟩:=Go.Deep.open_slice Q U
 .exact⟨_,[],k,⟨none,0,rfl,bz _,aP _,λi h=>bL h (by simp)⟩,λx G=>by simp at G⟩
 .simp at t
  subst t;have⟨V,I⟩:=zW (m:=m) (p:=λi r=>W.cells? 0 (x.add (i*P.cellsOf E)) (P.cellsOf E)=some (f r)/\F r) (λi h=>by
   have⟨Y,Z,h2⟩:=G i h;obtain⟨r,rfl,hr⟩:=g _ _ _ h2;exact⟨r,Z,hr⟩)
  refine⟨_,(List.range l).map V,k,⟨some x,m,by simp,by simp;omega,by simpa using X,λi h=> ?_⟩,λy N=> ?_⟩
  .simp at h
   have J:i<m:=by omega
   have⟨_,w,a⟩:=World.cells?_some (I i J).1;rw[M]at w a;have K:=a 0 B;rw[jZ (by omega)]at K;obtain⟨b,L,z⟩:=x;have q:z=none:=by
    have⟨_,s,d⟩:=World.cells?_some (I 0 (by omega)).1;rw[M]at s d;have A:=d 0 B;rw[jZ (by omega)]at A;have B:=World.cell?_spot A;simpa[Addr.add]using B
   subst q;have e:∀o i,(⟨b,o,none⟩:Addr).add i=⟨b,o+i,none⟩:=λo i=>by cases i<;>simp[Addr.add]
   rw[e,e]at K;refine⟨b,L,rfl,iV W _ K,λj u O=> ?_⟩;have hj:j<sz:=by
    have:=(List.getElem?_eq_some_iff.1 O).1;simp[aU,h]at this;omega
   have:=a j hj;rw[e,e]at this;rw[this];simpa[aU,h]using O
  .simp at N
   obtain⟨i,h,rfl⟩:=N;exact(I i (by omega)).2
section
variable{H:Type}{enc:TypeId×ah->H}{W:ae}{base:Nat}{spare:Nat->Bool}{held:Bool}{fuel:Nat}{cs:List ah}{x:DataW H×List MemPlace}
def cIn:prog.cellsOf 3=1:=by kernel_rfl
def cStr:prog.cellsOf 9=1:=by kernel_rfl
def akh:prog.cellsOf 31=3:=by kernel_rfl
def afM:prog.cellsOf 33=7:=by kernel_rfl
def afN:prog.cellsOf 116=2:=by kernel_rfl
def afO:prog.cellsOf 22=1:=by kernel_rfl
def afP:prog.cellsOf 23=1:=by kernel_rfl
def aki:prog.cellsOf 25=12:=by kernel_rfl
def te(e:cO):Prop:=ld e.kind/\ld e.node/\ld e.at'/\ld e.x/\ld e.k/\ld e.n
def Rz(h:DataW.trod enc prog W base spare held fuel 9 cs=some x):∃s,cs=oR s/\True:=by
 have⟨s,e,_⟩:=DataW.trod_string underlying9 h;exact⟨s,e,trivial⟩
def RA(h:DataW.trod enc prog W base spare held fuel 116 cs=some x):∃r:fI,cs=r.cells/\ld r.len:=by
 have⟨i,m,_,_,b,a,c⟩:=DataW.trod_struct underlying116 h;rw[afN]at b
 match cs,b with
 | [n,o],_=>
 match i,a with
 | [q,s],_=>
 have d:=c 0 _ rfl;have e:=c 1 _ rfl;simp[cIn,cStr]at d e;have⟨j,f,_,k⟩:=DataW.trod_int underlying3 d;have⟨l,g,_⟩:=DataW.trod_string underlying9 e;simp at f g;exact⟨⟨j,l⟩,by rw[f,g];rfl,k⟩
def KC(h:DataW.trod enc prog W base spare held fuel 33 cs=some x):∃r:cO,cs=r.cells/\te r:=by
 have⟨z,m,_,_,e,c,d⟩:=DataW.trod_struct underlying33 h;rw[afM]at e
 match cs,e with
 | [T,U,V,X,Y,Z,c6],_=>
 match z,c with
 | [y0,y1,y2,y3,y4],_=>
 have f:=d 0 _ rfl;have g:=d 1 _ rfl;have i:=d 2 _ rfl;have j:=d 3 _ rfl;have k:=d 4 _ rfl;simp[cIn,akh]at f g i j k;have⟨A,l,_,B⟩:=DataW.trod_int underlying3 f;have⟨C,n,_,E⟩:=DataW.trod_int underlying3 g;have⟨F,o,_,G⟩:=DataW.trod_int underlying3 i;have⟨I,q,_,J⟩:=DataW.trod_int underlying3 j;have⟨K,m2,_,_,L,a,b⟩:=DataW.trod_struct underlying31 k
 match K,a with
 | [z0,z1,z2],_=>
 have s:=b 0 _ rfl;have t:=b 1 _ rfl;have u:=b 2 _ rfl;simp[cIn,cStr]at s t u;have⟨M,v,_⟩:=DataW.trod_string underlying9 s;have⟨N,w,_,O⟩:=DataW.trod_int underlying3 t;have⟨P,y,_,Q⟩:=DataW.trod_int underlying3 u;simp at l n o q v w y;exact⟨⟨A,C,F,I,M,N,P⟩,by rw[l,n,o,q,v,w,y];rfl,B,E,G,J,O,Q⟩
end
structure aV.rd(c:aV)(W:ae):Prop where
 w:aT oR 1 W c.wv c.words
 k:aT fI.cells 2 W c.cv c.cuts
def aV.rd.below{c:aV}{w w':ae}(h:c.rd w)(a:ai w w w'):c.rd w':=⟨h.w.below a,h.k.below a⟩
def Gd{H:Type}{enc:TypeId×ah->H}{W:ae}{fuel:Nat}{cs:List ah}{x:DataW H×List MemPlace}(h:DataW.trod enc prog W 0 (λ_=>true) true fuel 25 cs=some x):∃r:aV,cs=r.cells/\r.rd W/\ld r.workers/\ld r.b_:=by
 have⟨M,m,_,_,l,b,a⟩:=DataW.trod_struct underlying25 h;rw[aki]at l
 match cs,l with
 | [c0,c1,c2,c3,c4,c5,c6,c7,c8,c9,N,O],_=>
 match M,b with
 | [y0,y1,y2,y3,y4,y5,y6,y7,y8,y9,P,Q],_=>
 have n:=a 0 _ rfl;have o:=a 1 _ rfl;have q:=a 2 _ rfl;have s:=a 3 _ rfl;have t:=a 4 _ rfl;have u:=a 5 _ rfl;have v:=a 6 _ rfl;have w:=a 7 _ rfl;have y:=a 8 _ rfl;have z:=a 9 _ rfl;have c:=a 10 _ rfl;have d:=a 11 _ rfl;simp[cIn,afO,afP]at n o q s t u v w y z c d;have⟨T,U,A,V,_⟩:=EM oR 1 (λ_=>True) underlying22 cStr (by decide) (λ_ _ _ h=>Rz h) n;have⟨X,Y,B,Z,_⟩:=EM fI.cells 2 (λ_=>True) underlying23 afN (by decide) (λ_ _ _ h=>by obtain⟨r,e,_⟩:=RA h;exact⟨r,e,trivial⟩) o;have⟨a2,C,_,w2⟩:=DataW.trod_int underlying3 q;have⟨a3,E,_,w3⟩:=DataW.trod_int underlying3 s;have⟨a4,F,_,w4⟩:=DataW.trod_int underlying3 t;have⟨a5,G,_,w5⟩:=DataW.trod_int underlying3 u;have⟨a6,I,_,w6⟩:=DataW.trod_int underlying3 v;have⟨a7,J,_,w7⟩:=DataW.trod_int underlying3 w;have⟨a8,K,_,w8⟩:=DataW.trod_int underlying3 y;have⟨a9,L,_,w9⟩:=DataW.trod_int underlying3 z;have⟨i,f,_,j⟩:=DataW.trod_int underlying3 c;have⟨k,g,_,w11⟩:=DataW.trod_int underlying3 d;simp at A B C E F G I J K L f g;exact⟨⟨T,X,U,Y,a2,a3,a4,a5,a6,a7,a8,a9,i,k⟩,by rw[A,B,C,E,F,G,I,J,K,L,f,g];rfl,⟨V,Z⟩,w2,j⟩
variable{p:List MemPlace}
def fN{H:Type}{enc:TypeId×ah->H}{W:ae}{base:Nat}{v:ah}{d:DataW H}
 (a:Value.okWide prog W .any base 26 v) (h:DataW.Trod enc prog W 0 (λ_=>true) true 26 v d p):∃xs,aT cO.cells 7 W v xs/\∀x∈xs,te x:=
 P7 cO.cells 7 te underlying26 afM (by decide) (λ_ _ _ h=>KC h) a h
def gW{H:Type}{enc:TypeId×ah->H}{W:ae}{base:Nat}{v:ah}{d:DataW H}
 (a:Value.okWide prog W .any base 25 v) (h:DataW.Trod enc prog W 0 (λ_=>true) true 25 v d p):∃c:aV,v=c.val/\c.rd W/\ld c.workers/\ld c.b_:=by
 obtain⟨cs,rfl,b⟩:=okWide_struct underlying25 a;obtain⟨fuel,f⟩:=h;have⟨r,e,g⟩:=Gd f;refine⟨r,?_,g⟩;have:cs=r.cells.toArray:=by rw[<-e];simp[Value.cells]
 rw[this];rfl
end
end Go.Proofs.YtjpnlfpompnpkaaGreat
