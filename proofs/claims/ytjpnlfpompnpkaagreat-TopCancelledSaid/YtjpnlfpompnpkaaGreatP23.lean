import Derived.Test.YtjpnlfpompnpkaaGreatP18
import Derived.Test.YtjpnlfpompnpkaaGreatP19
import Derived.Test.YtjpnlfpompnpkaaGreatP20
import Derived.Test.YtjpnlfpompnpkaaGreatP21
import Derived.Test.YtjpnlfpompnpkaaGreatP22
namespace Go.Proofs.YtjpnlfpompnpkaaGreat
open Go.RowKit Go.Proofs.Tryz
open Go.Value renaming int->an,slice->av,bool->aw,string->aA,tuple->aM,pointer->aL,agg->aG
open Go.IntKind renaming i64->ar
open Go.Ending renaming returned->ax
open Go.Obj renaming cells->aB
open Go renaming World->ae,Value->ah,Calls->aj,Ending->ak
open Go.RowKit renaming Below->ai
set_option maxRecDepth 100000
set_option linter.all false
set_option maxHeartbeats 2000000
open Go.ChangeMaps mX
variable{P:Tg->Prop}{τ br:cj}{w w':ae}{c:aV}
variable{m:jG}{x:cB}{B:Int}
def Vq(h:cJ c τ w m x)(a:cI c B x)(j:B<=1000000000)(r:lr)(d:nJ r=true){f:Option Nat}{iv:ah}(g:Seg w 83 2 f iv (dT r.items) r.items.length)(k:∀b,f=some b->τ b=.keep)(i:∀y∈r.items,y.2.size<=maxLen)(l:∀t∈x.told,t.items.length<=100000):
 aj prog 247 #[m.cb,Nz r iv] w (pS c m.cb (eX c x r) τ w):=by
 cases hg:CS c x r
 .exact Vg h a j r d g k i l hg
 .refine(Yy h r d g i hg).mono ?_
  rintro e y ⟨rfl,n⟩;have:eX c x r=(x,[]):=by
   unfold eX;have e:(!nJ r||(mC x.who r.slot !=some r.query||(decide (aZ c<=r.aR)|| !(bR c r.aR).contains r.worker)))=true:=by
    unfold CS at hg;rw[d,hg];rfl
   rw[e];rfl
  rw[this];exact⟨_,rfl,eH.nil _ _,I2.of h n⟩
def pS.from{b:Nat}{r:cB×List fF}{e:ak}{u y:ae}(h:pS c b r br u e y)(d:Fr dB τ br w u):pS c b r τ w e y:=by
 obtain⟨v,f,g,a,i,j,k,l⟩:=h;exact⟨v,f,g.mono d.size,a,i,j,k,d.trans l⟩
def RD(h:cJ c τ w m x)(b:cI c B x)(a life:Int)(iv:ah):aj prog 244 #[m.cb,(cd.eu a life).val iv] w (pS c m.cb (dU c x (.eu a life)) τ w):=by
 have⟨u,d⟩:=aD (w.alloc (aB #[a,life] 235 (0,0)));have⟨i,j,t⟩:=dt d;have⟨k,l⟩:=h.same j.aJ .keep;have⟨n,f⟩:=aK (show aj prog 246 #[m.cb,aG #[a,life]] u (pS c m.cb (dU c x (.eu a life)) τ w)from(UQ k b.n0 b.n1 a life).mono λe y p=>pS.from p l) (show∀e y,pS c m.cb (dU c x (.eu a life)) τ w e y->∃v,e=ax v fromλe y ⟨v,q,_⟩=>⟨v,q⟩);have⟨z,A⟩:=dk i;have r:=au d;generalize pS c m.cb (dU c x (.eu a life)) τ w=Q at*;generalize m.cb=cb at*;clear h b k l j i d
 show aj prog 244 #[cb,.iface 235 (aG #[a,life])] w _
 go_in;go_upto_region 4 with fail
 rw[<-r.o];go_wp2_with fail
 refine n.m ?_;intro e y g;obtain⟨v,rfl⟩:=f.o e y g;have s:=au g;clear g;go_wp2;exact s.o
def RE(h:cJ c τ w m x)(k:cI c B x)(U:B<=1000000000)(r:lr)(j:nJ r=true){H:Option Nat}{iv:ah}(p:Seg w 83 2 H iv (dT r.items) r.items.length)(I:∀b,H=some b->τ b=.keep)(J:∀y∈r.items,y.2.size<=maxLen)(V:∀t∈x.told,t.items.length<=100000):
 aj prog 244 #[m.cb,(cd.dj r).val iv] w (pS c m.cb (dU c x (.dj r)) τ w):=by
 have⟨W,X,q,_⟩:=p.len;have⟨u,n⟩:=aD ((w.alloc (aB #[an ar 0,an ar 0] 235 (0,0))).alloc (aB #[r.slot,r.query,r.aR,r.seq,r.worker,r.aW,iv,aw r.fin] 246 (0,0)));have l:ai w w u:=by rw[n];exact((aO _ _).alloc (aP _) _).alloc (by simp) _
 have⟨K,s⟩:=h.same l .keep;have⟨L,M⟩:=p.fr s I lO;have⟨z,A⟩:=aK (show aj prog 247 #[m.cb,Nz r iv] u (pS c m.cb (dU c x (.dj r)) τ w)from(Vq K k U r j L M J V).mono λe y Y=>pS.from Y s) (show∀e y,pS c m.cb (dU c x (.dj r)) τ w e y->∃v,e=ax v fromλe y ⟨v,Z,_⟩=>⟨v,Z⟩);have⟨N,d⟩:=aD (w.heap.size+1);have O:u.heap[N]? =some (aB #[r.slot,r.query,r.aR,r.seq,r.worker,r.aW,iv,aw r.fin] 246 (0,0)):=by
  have:N=(w.alloc (aB #[an ar 0,an ar 0] 235 (0,0))).heap.size:=by rw[d];simp
  rw[n,this];exact a_ _ _
 have⟨d0,d1,d2,d3,d4,d5,d6,d7⟩:=Ou O;have⟨T,C⟩:=aK n d;unfold Nz at z;rw[q]at d6 z⊢;rw[q]at T;generalize pS c m.cb (dU c x (.dj r)) τ w=Q at*;generalize m.cb=cb at*;generalize r.items.length=il at*;obtain⟨slot,f,g,E,a,i,F,G⟩:=r;simp only at*;clear h k K s n d O l L M p I J j q
 show aj prog 244 #[cb,.iface 246 (aG #[slot,f,g,E,a,i,av W il X,aw G])] w _
 go_in;go_upto_region 7 with fail
 rw[<-T.o,<-C.o];go_wp2_with fail
 refine z.m ?_;intro e y j;obtain⟨v,rfl⟩:=A.o e y j;have HE:=au j;clear j;go_wp2;exact HE.o
def Be(h:cJ c τ w m x)(d:cd)(iv:ah)(e:∀a b,d≠.eu a b)(f:∀r,d≠.dj r):aj prog 244 #[m.cb,d.val iv] w (pS c m.cb (dU c x d) τ w):=by
 have g:=au (show∀y,ai w w y->pS c m.cb (dU c x d) τ w (ax ()) y fromλy i=>by
  have:dU c x d=(x,[]):=by
   cases d with
   |eu a b=>exact bL rfl (e a b)
   |dj r=>exact bL rfl (f r)
   |grant a b c=>rfl
   |ask a=>rfl
   |stop a b=>rfl
  rw[this];exact⟨_,rfl,eH.nil _ _,I2.of h i⟩)
 generalize pS c m.cb (dU c x d) τ w=Q at*;generalize m.cb=cb at*;clear h;cases d with
 |eu a b=>exact bL rfl (e a b)
 |dj r=>exact bL rfl (f r)
 |grant a b c=>
  clear e f
  show aj prog 244 #[cb,.iface 238 (aG #[an ar a,an ar b,c])] w _
  go_in;go_wp2;exact g.o _ (by repeat (first|exact aO _ _|refine ef ?_ _|refine Below.drew ?_))
 |ask a=>
  clear e f
  show aj prog 244 #[cb,.iface 240 (aG #[a.slot,a.query,a.aR,a.seq,a.aW,aA a.text,a.k,a.batch,aw a.first,a.jk,aA a.word])] w _
  go_in;go_wp2;exact g.o _ (by repeat (first|exact aO _ _|refine ef ?_ _|refine Below.drew ?_))
 |stop a b=>
  clear e f
  show aj prog 244 #[cb,.iface 248 (aG #[an ar a,an ar b])] w _
  go_in;go_wp2;exact g.o _ (by repeat (first|exact aO _ _|refine ef ?_ _|refine Below.drew ?_))
def abI(h:cJ c τ w m x)(e:cI c B x)(g:B<=1000000000)(d:cd)(i:d.may=true)(iv:ah)(j:∀r,d=.dj r->∃f,Seg w 83 2 f iv (dT r.items) r.items.length/\(∀b,f=some b->τ b=.keep)/\∀y∈r.items,y.2.size<=maxLen)(k:∀t∈x.told,t.items.length<=100000):
 aj prog 244 #[m.cb,d.val iv] w (pS c m.cb (dU c x d) τ w):=by
 cases d with
 |eu a b=>exact RD h e a b iv
 |dj r=>
  have⟨f,l,n,o⟩:=j r rfl;exact RE h e g r i l n o k
 |grant a b c=>exact Be h _ iv (by simp) (by simp)
 |ask a=>exact Be h _ iv (by simp) (by simp)
 |stop a b=>exact Be h _ iv (by simp) (by simp)
def Vr(x:cB):Prop:=∀y∈x.qs,∀s:Int,(jl y.ss s).1.2.size<=maxLen
def Bf{B:Int}(b:0<=B){x:cB}{y:ej}(h:cI c B x)(d:iH c B x y)(l:List fF)(a:Int){ws:List Int}(e:∀s∈ws,0<=s/\s.toNat<(aZ c).toNat):∀k,k<=ws.length->Ny c B x y l (fq c a x y l ws k) k
 |0,_=>by
  have:fq c a x y l ws 0=(x,y,l):=by unfold fq;rw[List.take_zero];rfl
  rw[this];exact Ny.zero h d l
 |k+1,f=>by
  rw[pW a x y l (show k<ws.length by omega)];exact(Bf b h d l a e k (by omega)).next b (e _ (eA _)).2 a
def Bg(a:Int){x:cB}{y:ej}(l:List fF){ws:List Int}:∀k,k<=ws.length->(fq c a x y l ws k).1.qs=x.qs
 |0,_=>by
  have:fq c a x y l ws 0=(x,y,l):=by unfold fq;rw[List.take_zero];rfl
  rw[this]
 |k+1,f=>by
  rw[pW a x y l (show k<ws.length by omega)];have e:∀(b:cB) (d:ej) (s:Nat),(cL c b d s a).1.qs=b.qs:=λb d s=>by
   unfold cL;simp only;split
   .rfl
   .split
    .rfl
    .split<;>rfl
  show(cL c _ _ _ a).1.qs=_
  rw[e,Bg a l k (by omega)]
structure ako(c:aV)(B:Int)(r:cB×List fF)(k:Nat):Prop where
 co:cI c (B+6*k) r.1
 af:Vr r.1
 len:r.2.length<=6*k
 pl:∀l∈r.2,∀q,l.m≠.dj q
def KE{B:Int}(j:0<=B){x:cB}(h:cI c B x)(l:Vr x)(a:Int):∀k:Nat,ako c B (dM c x a k) k
 |0=>⟨h.mono (by omega),l,by simp[dM],by simp[dM]⟩
 |k+1=>by
  have d:=KE j h l a k;refine⟨ni h j a (k+1),?_,?_,?_⟩
  all_goals
   show _
   unfold dM lE;split
   .first
     |exact d.af
     |exact bD d.len (by omega)
     |exact d.pl
   .rename_i id hid
    split
    .first
      |exact d.af
      |exact bD d.len (by omega)
      |exact d.pl
    .rename_i y m
     have⟨g,o⟩:=jQ m;have i:=d.co.qy y g;have p:∀s∈ki y.n y.ss y.mt,0<=s/\s.toNat<(aZ c).toNat:=λs q=>by
      have:=pR q;rw[i.sl]at this;exact this
     have b:=Bf (by omega) d.co i (dM c x a k).2 a p _ (aP _);have f:=Bg (c:=c) a (x:=(dM c x a k).1) (y:=y) (dM c x a k).2 (ws:=ki y.n y.ss y.mt) _ (aP _);have r:=nQ y.n y.ss y.mt;have u:=cW c;unfold fq at b f;rw[fR]at b f
     first
      |(intro z t s
        obtain e|⟨e,_⟩:=rp (show z∈nO _ _ from t)
        .rw[e,b.ss];exact d.af y g s
        .rw[f]at e;exact d.af z e s)
      |(have:=b.len
        have:=d.len;have:=i.sl;simp only;omega)
      |exact b.pl d.pl
def Fr.over{y:ae}(h:Fr P τ br w w'){S:List Nat}(a:aQ S w' y)(d:∀x∈S,w.heap.size<=x)(t:Tg):Fr P τ (eP br w' t) w y:=
 ⟨a.os.trans h.os,a.tape.trans h.tape,a.output.trans h.output,bD h.size a.size,λk b=>(dZ (bP b h.size)).trans (h.old k b),λk b f=>(a.block k (bP b h.size) (λe=>by have:=d k e;omega)).trans (h.block k b f)⟩
def CwP(c:aV)(cb:Nat)(r:cB×List fF)(τ:cj)(w:ae)(v:ah)(w':ae):Prop:=
 ∃br m',gK (λb=>br b=.tmp/\w.heap.size<=b) w' v r.2/\cJ c br w' m' r.1/\m'.cb=cb/\Fr dB τ br w w'
def CwI(c:aV)(cb kb:Nat)(r:cB×ej×List fF)(gw:Option Nat)(wv:ah)(ws:List Int)(τ:cj)(w:ae)(v:ah)(w':ae):Prop:=
 ∃br m' k',gK (λb=>br b=.tmp/\w.heap.size<=b) w' v r.2.2/\cJ c br w' m' (r.1.put r.2.1)/\m'.cb=cb/\k'∈m'.qs/\k'.y=r.2.1/\k'.b=kb/\Fr dB τ br w w'/\Seg w' 3 1 gw wv (ws.flatMap dX) ws.length/\∀b,gw=some b->br b=.keep
def CwI.next{I J:Nat}{r:cB×ej×List fF}{Z:Option Nat}{wv:ah}{ws:List Int}{v:ah}{w':ae}(h:CwI c I J r Z wv ws τ w v w'){B:Int}(K:cI c B r.1)(L:iH c B r.1 r.2.1)(hB:B<=900000){s:Nat}(hs:s<(aZ c).toNat)(a:Int)(M:(jl r.2.1.ss s).1.2.size<=maxLen)(hl:r.2.2.length<=100000)(hp:∀l∈r.2.2,∀q,l.m≠.dj q):
 aj prog 250 #[I,J,(s:Int),(a:Int)] w' λe y=>∃F G z,e=ax F/\(∀ty,(Builtin.append_ #[130,130] ty #[v,F]).run prog y=.ok G z)/\
  CwI c I J ((cL c r.1 r.2.1 s a).1,(cL c r.1 r.2.1 s a).2.1,r.2.2++(cL c r.1 r.2.1 s a).2.2) Z wv ws τ w G z:=by
 obtain⟨N,m1,k1,h1,h2,h3,h4,h5,h6,O,h8,h9⟩:=h;have hw:=Yx h2 h4 h5 K L hB hs a (by rw[<-h5];have:=(h2.q.r k1 h4).tx;have e:(1000:Nat)<=maxLen:=(by decide);omega) M;rw[h3,h6]at hw;refine hw.mono ?_;rintro e y ⟨F,rfl,i,m2,k2,l1,c1,c2,c3,c4,c5,A⟩;have⟨p1,p2⟩:=xA (c:=c) r.1 r.2.1 s a;have Q:gK (λb=>i b=.tmp/\w.heap.size<=b) y v r.2.2:=by
  have d:=h1;obtain⟨ms,i1,⟨g,T,U⟩,i4⟩:=h1;have f:∀b,(N b=.tmp/\w.heap.size<=b)->b<w'.heap.size->y.heap[b]? =w'.heap[b]? /\i b=.tmp:=λb f d=>⟨A.block b d (by rw[f.1];simp[dB]),(A.old b d).trans f.1⟩
  refine⟨ms,i1,⟨g,T.kept λb j=> ?_,λb j=> ?_⟩,λV W=>⟨?_,(i4 V W).2⟩⟩
  .have o:g=some b:=by simpa using j
   exact(f b (U b o) (T.lt b o)).1
  .exact⟨(f b (U b j) (T.lt b j)).2,(U b j).2⟩
  .exact(i4 V W).1.plain (hp _ (by rw[<-i1];exact List.mem_map.2 ⟨V,W,rfl⟩)) _ _
 have C:=l1.mono (D':=λb=>i b=.tmp/\w.heap.size<=b) λb f=>⟨f.1,bD O.size f.2⟩
 have⟨g,G,z,r1,r2,u,r4⟩:=gK.add (D:=λb=>(eP i y .tmp) b=.tmp/\w.heap.size<=b) (Q.mono' λb d f=>⟨(dZ d).trans f.1,f.2⟩) (C.mono' λb d f=>⟨(dZ d).trans f.1,f.2⟩) hp p2 (by omega) (λb f=>⟨d_ f,bD O.size (bD A.size f)⟩);have X:=λx Y d=>(dZ d).symm.trans (r4 x Y).1
 have E:Fr (·=.tmp) i (eP i y .tmp) y z:=⟨u.os,u.tape,u.output,u.size,λk H=>dZ H,λk H hn=>u.block k H λe=>hn (X k e H)⟩;have p:=(h8.fr A h9 lO);have n:=p.1.fr E p.2 (by simp);exact⟨F,G,z,rfl,r1,_,m2,k2,r2,c1.fr E (λt ht e=>by have e:=e;subst e;simp[dB]at ht) (by simp),c2,c3,c4,c5,(O.trans A).over u (λx Y=>(r4 x Y).2) .tmp,n.1,n.2⟩
def abK{m:jG}{x:cB}{B:Int}(h:cJ c τ w m x)(hok:cI c B x)(hB0:0<=B)(hB:B<=800000)(ha:Vr x)(a:Int):
 aj prog 245 #[aL (some m.cb),(a:Int)] w λe w'=>∃v,e=ax v/\CwP c m.cb (iD c x a) τ w v w':=by
 have hbd:=aV.bounds hok.may;have uq:=au (KE hB0 hok ha a);have⟨NS,hNS⟩:=aD c.slots.toNat;have hns:c.slots=(NS:Int):=by have:=hbd.s1;omega
 have aqD:NS<=4:=by have:=hbd.s2;omega
 have hcb:=h.cells;have c4:=hcb.c4;have pl:=hcb.lt;rw[hns]at c4;have⟨cb,H⟩:=aD m.cb;have⟨O,hO⟩:= @aD (Nat->ah->ae->Prop) (λk v wr=>CwP c cb (dM c x a k) τ w v wr);have⟨HO,H0⟩:=aK hO (show O 0 () w by rw[hO];exact⟨τ,m,gK.nil _ _,h,H.symm,Fr.refl _ _ _⟩);have ke:=au (show∀v y,O NS v y->∃v',Ending.returned v=ax v'/\CwP c cb (iD c x a) τ w v' y fromλv y hh=>by
  rw[hO]at hh;unfold iD;rw[<-hNS];exact⟨v,rfl,hh⟩)
 rw[<-H]at c4 pl⊢;have⟨HSV,HNS⟩:=aK (cW c) hNS;clear h hcb hO hok ha hbd hNS hns H;go_in;go_wp2_with fail
 go_loopw [5,19] (λv i wr=>∃k:Nat,i=an ar k/\k<=NS/\O k v wr) (λ_ i _=>NS-(intOf i).toNat)
 case atStart=>exact⟨0,rfl,bz _,H0.o⟩
 case round=>
  obtain⟨k,rfl,hk,U⟩:=hrel;by_cases hlt:k<NS
  .have l:=uq.o k
   rw[HO.o]at U;obtain⟨τ1,m1,l1,E,e1,f1⟩:=U;have J:=E.cells;have c15:=J.c15;have c17:=J.c17;have el:=J.lt;rw[e1]at c15 c17 el;have C:=au (atC E.s.at' (k:Int) (eN (by omega) (by omega)));have q2:(k:Int)<(NS:Int):=by omega
   have Mk:=au (show dM c x a (k+1)=lE c (dM c x a k).1 k a (dM c x a k).2 from rfl);have⟨X,hX⟩:=aD ((dM c x a k).1);have⟨L,hL⟩:=aD ((dM c x a k).2);rw[<-hX]at E C;rw[<-hL]at l1;rw[<-hX,<-hL]at Mk;cases hat:mC X.who (k:Int)with
   |none=>
    rw[hat]at C;simp only[Option.getD_none,Option.isSome_none]at C;have HE:=au (show O (k+1) u5 wr by
     rw[HO.o]
     show CwP c cb (dM c x a (k+1)) τ w u5 wr
     rw[Mk.o];unfold lE;rw[hat];exact⟨τ1,m1,l1,E,e1,f1⟩)
    clear l1 E f1 J l hX hL hat;go_wp2_with fail
    refine aH C.o ?_;go_wp2;go_roundw
    case rel=>exact⟨k+1,by simp,by omega,HE.o⟩
    case measure=>simp[intOf];omega
   |some id=>
    rw[hat]at C;simp only[Option.getD_some,Option.isSome_some]at C;have⟨yy0,hq0,abt,abu⟩:=EI (hX▸l.co) hat;obtain⟨d,K,hki,hq,hf⟩:∃d∈m1.qs,d.y.id=id/\X.q id=some d.y/\ur m1.qs id=some (aL (some d.b)):=by
     obtain⟨h1,_⟩|h1:=E.find id
     .rw[hq0]at h1;cases h1
     .exact h1
    have u:=hX▸l.co;have afZ:=hX▸l.af;have M:d.y∈X.qs:=by rw[<-E.qv];exact List.mem_map.2 ⟨d,K,rfl⟩
    have⟨n1,n2,n3,n4⟩:=u.nums M;have htl:=u.tl;have hlb:=u.lb;have V:=u.qy d.y M;have hlk:=E.q.m.look (t:=109) underlying109 F7 (x:=id) (eN (by omega) (by omega));rw[hf]at hlk;simp only[Option.getD_some]at hlk;obtain⟨-,-,-,-,-,q5,q6⟩:=(E.q.r d K).cells';have hmw:=Xp (E.q.r d K).mg;rw[(E.q.r d K).ss]at hmw;have HMW:=au hmw;have⟨z,N⟩:=aD (ki d.y.n d.y.ss d.y.mt);rw[<-N]at HMW;have hw:∀s∈z,0<=s/\s.toNat<(aZ c).toNat:=λs hs=>by
     rw[N]at hs;have:=pR hs;rw[V.sl]at this;exact this
    have hwl:z.length<=6:=by
     have:=nQ d.y.n d.y.ss d.y.mt;have:=HSV.o;have:=V.sl;rw[N];omega
    have⟨YK,HW,HQY⟩:=aX (Bf (by omega) u V L a hw) hw (afZ d.y M);have Q:=hL▸l.pl;have hlenL:=hL▸l.len;have HPL:=au Q;have hps:=Vc u.nd M;have⟨I,hI⟩:= @aD (Option Nat->ah->Nat->ah->ae->Prop) (λF wv j v wr2=>CwI c cb d.b (fq c a X d.y L z j) F wv z τ w v wr2);have HI:=au hI;have HST:=au (show∀v A,fU wr A v z->ai wr wr A->∃F,I F v 0 u5 A fromλv A hi hb=>by
     have⟨F,g1,g2⟩:=Own.Cs hi;have⟨j1,j2⟩:=E.same hb .keep;refine⟨F,?_⟩;rw[hI];have e0:fq c a X d.y L z 0=(X,d.y,L):=by unfold fq;rw[List.take_zero];rfl
     show CwI c cb d.b (fq c a X d.y L z 0) F v z τ w u5 A
     rw[e0];refine⟨_,m1,d,?_,by rw[hps];exact j1,e1,K,rfl,rfl,f1.trans j2,g1,λb T=>d_ (g2 b T)⟩;obtain⟨ms,W,⟨g,Y,i3⟩,i4⟩:=l1;exact⟨ms,W,⟨g,Y.bH (ch hb) (by simp),λb T=>⟨(dZ (Y.lt b T)).trans (i3 b T).1,(i3 b T).2⟩⟩,λmm hm=>⟨(i4 mm hm).1.plain (Q _ (by rw[<-W];exact List.mem_map.2 ⟨mm,hm,rfl⟩)) _ _,(i4 mm hm).2⟩⟩)
    have Ye:=au (show∀F wv v A,I F wv z.length v A->O (k+1) v A fromλF wv v A hi=>by
     rw[hI]at hi;rw[HO.o]
     show CwP c cb (dM c x a (k+1)) τ w v A
     rw[Mk.o];unfold lE;rw[hat];simp only[hq];obtain⟨τ2,m2,k2,W,Y,i3,i4,i5,i6,i7,i8,i9⟩:=hi;unfold fq at W Y;rw[fR]at W Y;rw[N]at W Y;exact⟨τ2,m2,W,Y,i3,i7⟩)
    generalize d.b=kb at*;generalize d.p=kp at*;clear l1 E f1 J l hX hL hat hq0 abt abu hq hf u afZ M htl hlb V hmw hw hps hI N n1 n2 n3 n4 hki Q;go_wp2_with fail
    refine aH C.o ?_;go_wp2_with fail
    refine HMW.m ?_;rintro e A ⟨wv,rfl,hi,hb⟩;have⟨F,hi0⟩:=HST.o wv A hi hb;have HI0:=au hi0;have⟨wa,wc,hwv,_⟩:=Own.len hi;subst hwv;clear hi hb hi0 hlk;go_wp2_with fail
    go_loopw [5,45] (λv i wr2=>∃j:Nat,i=an ar j/\j<=z.length/\I F (av wa z.length wc) j v wr2) (λ_ i _=>z.length-(intOf i).toNat)
    case atStart=>exact⟨0,rfl,bz _,HI0.o⟩
    case round=>
     obtain⟨j,rfl,hj,Z⟩:=hrel;by_cases hjl:j<z.length
     .have G:=YK.o j hj
      have hcw:=Z;rw[HI.o]at hcw;have hcw2:=hcw;obtain⟨τ2,m2,k2,W,Y,i3,i4,i5,i6,i7,i8,i9⟩:=hcw2;have⟨pb,UW,pcp,_,he,pbl,hcc⟩:=i8.cell (by decide) j hjl;simp only[bG,bK]at he;obtain⟨rfl,rfl⟩:=he;have hwj:=HW.o _ (eA hjl);obtain⟨sj,hsj⟩:∃sj:Nat,(sj:Int)=z[j]:=⟨(z[j]).toNat,by omega⟩
      have a0:=(hcc 0 (an ar z[j]) (by decide) (by rw[eT (f:=dX) (λ_=>rfl) _ _ _ hjl (by decide)];rfl)).1;simp only[bM,Nat.mul_one]at a0;rw[<-hsj]at a0;have hnx:=CwI.next hcw G.co G.qy (by omega) (s:=sj) (by have:=hwj.2;omega) a (by rw[G.ss];exact HQY.o _) (by have:=G.len;omega) (G.pl HPL.o);have hsu:=pW (c:=c) a X d.y L hjl;rw[show(z[j]).toNat=sj by omega]at hsu;have HN:=au (show aj prog 250 #[aL (some ⟨cb,0,none⟩),aL (some kb),(sj:Int),(a:Int)] wr λe y=>∃v2 v3 A,e=ax v2/\(∀ty,(Builtin.append_ #[130,130] ty #[u5,v2]).run prog y=.ok v3 A)/\I F (av (some ⟨pb,UW,none⟩) z.length wc) (j+1) v3 A by
       refine hnx.mono ?_;rintro e y ⟨v2,v3,A,r1,r2,r3⟩;refine⟨v2,v3,A,r1,r2,?_⟩;rw[HI.o]
       show CwI c cb kb (fq c a X d.y L z (j+1)) F _ z τ w v3 A
       rw[hsu];exact r3)
      have q3:(0:Int)<=(j:Int):=by omega
      have q4:(j:Int)<(z.length:Int):=by omega
      clear G hcw W Y i3 i4 i5 i6 i7 i8 i9 hcc hwj hsj hnx hsu Z;go_wp2_with fail
      refine HN.m ?_;rintro e y ⟨v2,v3,A,rfl,hrun,hni⟩;have⟨gN,HNI⟩:=aK hrun hni;clear hrun hni a0;go_wp2_with (refine cE (by rfl) (.tmp 49) (.tmp 54) 130 (by rfl) _ _ _ A (by rfl) (by rfl) (gN.o _) ?_);go_roundw
      case rel=>exact⟨j+1,by simp,by omega,HNI.o⟩
      case measure=>simp[intOf];omega
     .obtain rfl:j=z.length:=by omega
      have HE:=au (Ye.o _ _ _ _ Z);clear Z;go_wp2;go_roundw
      case rel=>exact⟨k+1,by simp,by omega,HE.o⟩
      case measure=>simp[intOf];omega
  .obtain rfl:k=NS:=by omega
   have HE:=au (ke.o _ _ U);clear U;go_wp2;go_ret;exact HE.o
def abL(a:Nat)(w:ae):aj prog 241 #[aG #[a]] w λe w'=>e=ax (aw true)/\ai w w w':=by
 go_in;go_wp2;go_ret;exact⟨rfl,(aO _ _).alloc (aP _) _⟩
variable{R:ak->ae->Prop}
def af0{a:Nat}{f:ah}(h:∀y,ai w w y->aj prog 244 #[a,f] y R)(g:∀e y,R e y->∃v,e=ax v):
 aj prog 242 #[aG #[a],f] w R:=by
 have⟨u,b⟩:=aD (w.alloc (aB #[a] 124 (0,0)));have⟨i,j,q⟩:=dt b;have⟨k,l⟩:=aK (h u j.aJ) g;have r:=aF i 0 rfl;have n:=au b;clear h g b j i;go_in;go_upto_region 1 with fail
 rw[<-n.o];go_wp2_with fail
 refine k.m ?_;intro e y d;obtain⟨v,rfl⟩:=l.o e y d;have p:=au d;clear d;go_wp2;exact p.o
def af1{b:Nat}{a:Int}(h:∀y,ai w w y->aj prog 245 #[b,a] y R)(g:∀e y,R e y->∃v,e=ax v):
 aj prog 243 #[aG #[b],an ar a] w R:=by
 have⟨u,d⟩:=aD (w.alloc (aB #[b] 124 (0,0)));have⟨i,j,q⟩:=dt d;have⟨k,l⟩:=aK (h u j.aJ) g;have r:=aF i 0 rfl;have n:=au d;clear h g d j i;go_in;go_upto_region 1 with fail
 rw[<-n.o];go_wp2_with fail
 refine k.m ?_;intro e y f;obtain⟨v,rfl⟩:=l.o e y f;have p:=au f;clear f;go_wp2;exact p.o
def abM{i:Nat}{m:CT}{v:gL}(h:fM τ w i m v):aj prog 216 #[aG #[m.bx]] w λe w'=>e=ax (aw v.up)/\ai w w w':=by
 have⟨u,a⟩:=aD (w.alloc (aB #[m.bx] 93 (0,0)));have⟨d,b,l⟩:=dt a;have f:=h.fr (P:=λ_=>False) (Fr.eS b.aJ _ _) (λ_ _ h=>h) (λh=>h);have g:=au (vK f);have n:=aF d 0 rfl;have⟨j,k⟩:=aK a b.aJ;generalize v.up=up at*;generalize m.bx=bx at*;clear h f a b d;go_in;go_upto_region 1 with fail
 rw[<-j.o];go_wp2_with fail
 refine aH g.o ?_;go_wp2;go_ret;exact⟨rfl,k.o⟩
def af2{bx:Nat}{b:ah}{R:ae->Prop}(h:∀y,ai w w y->aj prog 219 #[bx,b] y λe w'=>e=ax (aM #[])/\R w'):
 aj prog 217 #[aG #[bx],b] w λe w'=>e=ax ()/\R w':=by
 have⟨u,a⟩:=aD (w.alloc (aB #[bx] 93 (0,0)));have⟨d,f,l⟩:=dt a;have i:=au (h u f.aJ);have n:=aF d 0 rfl;have j:=au a;clear h a f d;go_in;go_upto_region 1 with fail
 rw[<-j.o];go_wp2_with fail
 refine i.m ?_;rintro e y ⟨rfl,g⟩;have k:=au g;clear g;go_wp2;go_ret;exact⟨rfl,k.o⟩
def af3{bx:Nat}{a:Int}(h:∀y,ai w w y->aj prog 220 #[bx] y R)(f:∀e y,R e y->∃v,e=ax v):
 aj prog 218 #[aG #[bx],an ar a] w R:=by
 have⟨u,b⟩:=aD (w.alloc (aB #[bx] 93 (0,0)));have⟨g,i,p⟩:=dt b;have⟨j,k⟩:=aK (h u i.aJ) f;have q:=aF g 0 rfl;have l:=au b;clear h f b i g;go_in;go_upto_region 1 with fail
 rw[<-l.o];go_wp2_with fail
 refine j.m ?_;intro e y d;obtain⟨v,rfl⟩:=k.o e y d;have n:=au d;clear d;go_wp2;exact n.o
section
open Go.ChangeMaps mX
variable{P:Tg->Prop}{τ br:cj}{w w':ae}{c:aV}
def dN(c:aV)(xb rb np:Nat)(rs:List cS)(v:ah)(ls:List fF)(E:List (Nat×Obj))(τ:cj)(w:ae)(s:di×cS)(wr:ae):Prop:=
 ∃br m rm,kj c br wr m rb rm s.1 rs/\m.xb=xb/\m.np=np/\rm.r=s.2/\Fr (uA rs.length) τ br w wr/\gK (λb=>br b≠.net/\br b≠.rc rs.length) wr v ls/\∀b o,(b,o)∈E->wr.heap[b]? =some o/\br b=.tmp
variable{xb rb np:Nat}{rs:List cS}{v:ah}{ls:List fF}{E:List (Nat×Obj)}{s:di×cS}{wr y:ae}
def gK.fr{n:Nat}(h:gK (λb=>τ b≠.net/\τ b≠.rc n) w v ls)(f:Fr P τ br w w')(B:∀t,P t->t=.net∨t=.rc n):gK (λb=>br b≠.net/\br b≠.rc n) w' v ls:=by
 have j:∀b,(τ b≠.net/\τ b≠.rc n)->b<w.heap.size->w'.heap[b]? =w.heap[b]? /\(br b≠.net/\br b≠.rc n):=λb j k=>by
  refine⟨f.block b k λe=> ?_,by rw[f.old b k];exact j⟩;obtain e|e:=B _ e
  .exact j.1 e
  .exact j.2 e
 obtain⟨C,F,⟨g,o,u⟩,x⟩:=h;refine⟨C,F,⟨g,o.kept λb d=> ?_,λb d=>(j b (u b d) (o.lt b d)).2⟩,λp z=>⟨?_,(x p z).2⟩⟩
 .have i:g=some b:=by simpa using d
  exact(j b (u b i) (o.lt b i)).1
 .have G:=(x p z).1
  revert G;cases p.l.m with
  |ask a=>exact id
  |dj r=>
   rintro⟨⟨g,q,A⟩,H⟩;exact⟨⟨g,q.kept λb d=>(by
    have i:g=some b:=by simpa using d
    exact(j b (A b i) (q.lt b i)).1),λb d=>(j b (A b d) (q.lt b d)).2⟩,H⟩
  |eu a b=>exact id
  |grant a b c=>exact id
  |stop a b=>exact id
def dN.below(h:dN c xb rb np rs v ls E τ w s wr)(d:ai wr wr y):dN c xb rb np rs v ls E τ w s y:=by
 obtain⟨br,m,g,i,j,k,l,n,p,q⟩:=h;have⟨r,t⟩:=i.same d .tmp;have a:Fr (λ_=>False) br (eP br wr .tmp) wr y:=Fr.of_below d _ _ _;refine⟨_,m,g,r,j,k,l,n.trans t,p.fr a (λ_ e=>e.elim),λb o e=> ?_⟩;have⟨f,u⟩:=q b o e;exact⟨a.at f id,by rw[a.old b (az f)];exact u⟩
def dN.box(h:dN c xb rb np rs v ls E τ w s wr)(o:Obj)(d:y=wr.alloc o):dN c xb rb np rs v ls ((wr.heap.size,o)::E) τ w s y:=by
 obtain⟨br,m,i,j,k,l,n,p,q,r⟩:=h;have f:ai wr wr y:=by rw[d];exact(aO _ _).alloc (aP _) _
 have⟨t,u⟩:=j.same f .tmp;have a:Fr (λ_=>False) br (eP br wr .tmp) wr y:=Fr.of_below f _ _ _;refine⟨_,m,i,t,k,l,n,p.trans u,q.fr a (λ_ e=>e.elim),λb x e=> ?_⟩;obtain e|e:=List.mem_cons.1 e
 .simp only[Prod.mk.injEq]at e
  obtain⟨rfl,rfl⟩:=e;exact⟨by rw[d];exact a_ _ _,d_ (aP _)⟩
 .have⟨g,z⟩:=r b x e
  exact⟨a.at g id,by rw[a.old b (az g)];exact z⟩
def dN.less{E':List (Nat×Obj)}(h:dN c xb rb np rs v ls E τ w s wr)(a:∀p∈E',p∈E):dN c xb rb np rs v ls E' τ w s wr:=by
 obtain⟨br,m,d,f,g,i,j,k,l,n⟩:=h;exact⟨br,m,d,f,g,i,j,k,l,λb o e=>n b o (a _ e)⟩
def Vs{m:cd}{iv:ah}(h:m.rd w iv)(d:ai w w w'):m.rd w' iv:=by
 cases m with
 |ask a=>exact h
 |dj r=>exact⟨h.1.below d,h.2⟩
 |eu a b=>exact h
 |grant a b c=>exact h
 |stop a b=>exact h
def dN.letter(h:dN c xb rb np rs v ls E τ w s wr){k:Nat}(B:k<ls.length):∃b d o iv,v=av (some ⟨b,d,none⟩) ls.length o/\wr.cell? ⟨b,d+k*2,none⟩=some (an ar (ls[k]).dst)/\wr.cell? ⟨b,d+k*2+1,none⟩=((ls[k]).m.val iv)/\b<wr.heap.size/\(ls[k]).m.rd wr iv/\∃a n q,iv=av a n q:=by
 obtain⟨br,m,J,K,L,M,N,O,⟨i,r,⟨g,C,Q⟩,F⟩,T⟩:=h;have G:i.length=ls.length:=by rw[<-r,cr]
 have j:k<i.length:=by omega
 have p:(i[k]).l=ls[k]:=by
  have e:(i.map SC.l)[k]? =ls[k]? :=by rw[r]
  simpa[B,j]using e
 have⟨b,d,o,U,t,H,u⟩:=C.cell (by decide) k j;have⟨x,I⟩:=F (i[k]) (eA j);have z:=(u 0 (an ar (i[k]).l.dst) (by decide) (by rw[eT (f:=SC.cells) (sz:=2) (λ_=>rfl) i k _ j (by decide)];rfl)).1;have A:=(u 1 ((i[k]).l.m.val (i[k]).iv) (by decide) (by rw[eT (f:=SC.cells) (sz:=2) (λ_=>rfl) i k _ j (by decide)];rfl)).1;rw[p]at z A x;rw[G]at t;exact⟨b,d,o,(i[k]).iv,t,z,A,H,x.rd,I⟩
def dN.cells(h:dN c xb rb np rs v ls E τ w s wr):wr.cell? ⟨xb,2,none⟩=np/\xb<wr/\rb<wr/\∀b o,(b,o)∈E->wr.heap[b]? =some o:=by
 obtain⟨br,m,j,d,f,g,k,l,n,i⟩:=h;have a:=d.cl.bx;rw[f,g]at a;exact⟨aF a _ rfl,az a,az d.rb.bx,λb o e=>(i b o e).1⟩
def dN.send(h:dN c xb rb np rs v ls E τ w s wr)(a:s.1.next<1000000000)(lh dst:Int){d:ah}{bs:List Int}(l:dc wr .u8 d bs)(f:bs.length<=100000):
 aj prog 96 #[np,lh,dst,d] wr λe y=>e=ax (aM #[an ar s.1.next,aw (decide ((s.1.net.length:Int)<c.net))])/\
  dN c xb rb np rs v ls E τ w ({s.1 with next:=s.1.next+1,net:=sx c.net s.1.net ⟨s.1.next,lh,dst,bs,false⟩},s.2) y:=by
 obtain⟨br,m,n,h1,h2,g,p,q,r,u⟩:=h;have⟨x,n1,n2,i⟩:=h1.cl.net.call;rw[g]at n2 i;refine(adg n2 a lh dst d bs l f).mono ?_;rintro e y ⟨rfl,z,A,B⟩;have⟨j,p1,p2,_,_⟩:=i [] y _ _ .tmp z A B;rw[<-g]at p1;have⟨C,F⟩:=h1.abE p1 p2;refine⟨rfl,_,m,n,C,h2,g,p,q.trans F,r.fr p2 (λt e=>.inl e),λb o e=> ?_⟩;have⟨a1,k⟩:=u b o e;exact⟨p2.at a1 (by rw[k];simp),by rw[p2.old b (az a1)];exact k⟩
def dN.Rv{m:I3}{k a:RcM}(l:kj c br wr m rb k s.1 rs)(n:m.xb=xb)(p:m.np=np)(q:Fr (uA rs.length) τ br w wr)(u:gK (λb=>br b≠.net/\br b≠.rc rs.length) wr v ls)(x:∀b o,(b,o)∈E->wr.heap[b]? =some o/\br b=.tmp)
 {d:cj} {h:cS} (z:sZ d y rs.length rb a) (f:Fr (·=.rc rs.length) br d wr y) (g:a.r=h):dN c xb rb np rs v ls E τ w (s.1,h) y:=by
 have⟨A,B⟩:=l.Rv z f;refine⟨_,m,a,A,n,p,g,q.trans B,u.fr f (λt e=>.inr e),λb o e=> ?_⟩;have⟨i,j⟩:=x b o e;exact⟨f.at i (by rw[j];simp),by rw[f.old b (az i)];exact j⟩
def dN.sent(h:dN c xb rb np rs v ls E τ w s wr)(q:Int×Int×Int)(f:s.2.sent.length<=1000000):
 ∃d v' z,wr.cell? ⟨rb,9,none⟩=some d/\(∃a n k,d=av a n k)/\(∀i,(Builtin.append_ #[42,42] i #[d,av (some ⟨wr,0,none⟩) 1 1]).run prog (wr.alloc (aB #[an ar q.1,an ar q.2.1,an ar q.2.2] 56 (0,0)))=.ok v' z)/\(∃a n k,v'=av a n k)/\
  z.cell? ⟨rb,9,none⟩=some d/\z.frozen? ⟨rb,9,none⟩=false/\dN c xb rb np rs v ls E τ w (s.1,{s.2 with sent:=s.2.sent++ [q]}) (z.setCell ⟨rb,9,none⟩ v'):=by
 obtain⟨br,m,j,h1,h2,l,o,p,r,t⟩:=h;have b:=h1.rb.bx;rw[<-o]at f⊢;have⟨v',F,z,u,x,A,G,B,C⟩:=h1.rb.send q f;have⟨sa,H,e,_⟩:=h1.rb.a.s.len;have g:=x.trans b;exact⟨j.sv,v',z,by simp[World.cell?,b,RcM.cells,cO.cells],⟨_,_,_,e⟩,u,A,by simp[World.cell?,g,RcM.cells,cO.cells],bB g _,dN.Rv h1 h2 l p r t B C rfl⟩
def dN.lost(h:dN c xb rb np rs v ls E τ w s wr)(id:Int)(f:s.2.lost.length<=1000000):
 ∃d v' z,wr.cell? ⟨rb,11,none⟩=some d/\(∃a n k,d=av a n k)/\(∀i,(Builtin.append_ #[43,43] i #[d,av (some ⟨wr,0,none⟩) 1 1]).run prog (wr.alloc (aB #[(id:Int)] 3 (0,0)))=.ok v' z)/\(∃a n k,v'=av a n k)/\
  z.cell? ⟨rb,11,none⟩=some d/\z.frozen? ⟨rb,11,none⟩=false/\dN c xb rb np rs v ls E τ w (s.1,{s.2 with lost:=s.2.lost++ [id]}) (z.setCell ⟨rb,11,none⟩ v'):=by
 obtain⟨br,m,j,h1,h2,o,p,q,r,t⟩:=h;have b:=h1.rb.bx;rw[<-p]at f⊢;have⟨v',F,z,u,x,A,G,B,C⟩:=h1.rb.YE id f;have⟨sa,H,e,_⟩:=h1.rb.a.l.len;have g:=x.trans b;exact⟨j.lv,v',z,by simp[World.cell?,b,RcM.cells,cO.cells],⟨_,_,_,e⟩,u,A,by simp[World.cell?,g,RcM.cells,cO.cells],bB g _,dN.Rv h1 h2 o q r t B C rfl⟩
end
def RF(l:List aY)(h:∀x∈l,x.2.size<=48):(l.flatMap qZ).length<=51*l.length:=by
 induction l with
 |nil=>simp
 |cons a l d=>
  have b:=d λx e=>h x (du _ e)
  have f:=h a (by simp);rw[eI,bF,cG];unfold qZ at b⊢;simp only[bF,fY,oX]at b⊢;omega
def EP{m:cd}(h:m.may=true):m.frame.length<=1000:=by
 have g:m.body.length<=500:=by
  cases m with
  |eu a b=>simp[cd.body,gS]
  |grant a b c=>simp[cd.body,gS]
  |stop a b=>simp[cd.body,gS]
  |ask a=>
   have⟨_,e,d,_⟩:=AL (show nG a=true from h);simp only[cd.body,sA,bF,gS,fY,oX,cG,dx];omega
  |dj r=>
   have⟨_,e,d⟩:=FT (show nJ r=true from h);have:=RF r.items λx f=>(d x f).2.2
   simp only[cd.body,sA,bF,gS,fY,cG,dx];omega
 unfold cd.frame JN nY;simp only[bF,fY,j8,cG,dx];omega
def kX(c:aV)(lh:Int)(s:di×cS)(ls:List fF)(k:Nat):di×cS:=(ls.take k).foldl (cF c lh) s
def xC(a:Int)(s:di×cS){b:List fF}{k:Nat}(d:k<b.length):kX c a s b (k+1)=cF c a (kX c a s b k) (b[k]):=by
 unfold kX;rw[fG d,List.foldl_append];rfl
def ER(a:Int)(s:di×cS)(b:List fF):∀k,k<=b.length->(kX c a s b k).1.next<=s.1.next+k/\(kX c a s b k).2.sent.length<=s.2.sent.length+k/\(kX c a s b k).2.lost.length<=s.2.lost.length+k
 |0,_=>by simp[kX]
 |k+1,d=>by
  have⟨e,f,g⟩:=ER a s b k (by omega);rw[xC a s (show k<b.length by omega)];unfold cF;split
  .refine⟨by simp only;omega,by simp only[bF,cG,dx];omega,?_⟩
   simp only;split
   .omega
   .simp only[bF,cG,dx]
    omega
  .exact⟨by omega,by omega,by omega⟩
variable{xb rb np:Nat}{rs:List cS}{v:ah}{ls:List fF}{E:List (Nat×Obj)}{s:di×cS}{wr y:ae}
def rU{F:ae}(h:dN c xb rb np rs v ls E τ F s w)(lh:Int)(j:s.1.next+ls.length<=100000000)(X:s.2.sent.length+ls.length<=100000)(Y:s.2.lost.length+ls.length<=100000):
 aj prog 64 #[xb,rb,(lh:Int),v] w λe w'=>e=ax (aM #[])/\dN c xb rb np rs v ls E τ F (ls.foldl (cF c lh) s) w':=by
 obtain⟨la,lc,H,_,hlm⟩:∃a k,v=av a ls.length k/\ls.length<=k/\ls.length<=maxLen:=by
  obtain⟨_,_,_,_,_,_,_,_,hl,_⟩:=h;exact hl.len
 unfold maxLen at hlm;have Wv:=au (ER (c:=c) lh s ls);have⟨W,t⟩:= @aD (Nat->ae->Prop) (λk wr=>dN c xb rb np rs v ls E τ F (kX c lh s ls k) wr);have⟨x,H0⟩:=aK t (show W 0 w by rw[t];exact h);have Z:=au (show∀wr,W ls.length wr->dN c xb rb np rs v ls E τ F (ls.foldl (cF c lh) s) wr fromλwr hh=>by
  rw[t]at hh;unfold kX at hh;rw[fR]at hh;exact hh)
 have⟨cx,cl1,cl2,_⟩:=h.cells;have⟨HVV,HN,HB1,HB2,HB3⟩:=iI H (show(ls.length:Int)<=100000 by omega) j X Y;rw[H]at*;clear h t cx j X Y H;go_in;go_wp2_with fail
 go_loopw [16] (λi wr=>∃k:Nat,i=an ar k/\k<=ls.length/\W k wr) (λi _=>ls.length-(intOf i).toNat)
 case atStart=>exact⟨0,rfl,bz _,H0.o⟩
 case round=>
  obtain⟨k,rfl,hk,f⟩:=hrel;by_cases hlt:k<ls.length
  .rw[x.o]at f
   have⟨I,J,K⟩:=Wv.o k hk;have⟨b,off,cap,iv,e1,e2,e3,e4,e5,e6⟩:=f.letter hlt;simp only[bG,bK]at e1;obtain⟨rfl,rfl⟩:=e1;have⟨lt,n⟩:=aD (ls[k]);rw[<-n]at e2 e3 e5;have⟨st,L⟩:=aD (kX c lh s ls k);rw[<-L]at f I J K;have M:=au (show kX c lh s ls (k+1)=cF c lh st lt by rw[xC lh s hlt,L,n]);obtain⟨mt,mx,N⟩:∃mt mx,Value.iface mt mx=lt.m.val iv:=by cases lt.m<;>exact⟨_,_,rfl⟩
   rw[<-N]at e3;have⟨u,hu⟩:=aD (wr.alloc (aB #[lt.dst,.iface mt mx] 187 (0,0)));have⟨b1,bg,bl⟩:=dt hu;have O:=f.box _ hu;have Ye:=au (show aj prog 95 #[.iface mt mx] u (rP lt.m u)by rw[N];exact XE lt.m iv u e6 (Vs e5 bg.aJ));have⟨lb,Q⟩:=aD wr.heap.size;have HLB:=au Q;rw[<-Q]at b1 bl O;have u1:=aF b1 1 rfl;have⟨HU,HI2⟩:=aK hu O;have q1:(0:Int)<=(k:Int):=by omega
   have q2:(k:Int)<(ls.length:Int):=by omega
   have⟨HD1,HD2,HD3⟩:=aX I J K;clear f O hu Q b1 bg e5 e6 N L n I J K;go_upto_region 3 with fail
   rw[<-HU.o,<-HLB.o];go_wp2_with fail
   refine Ye.m ?_;rintro e A ⟨bv,rfl,T,j⟩;have HI3:=au (HI2.o.below j);cases nC:lt.m.may
   .rw[aC (by simp)]
    have U:=au (show W (k+1) A by
     rw[x.o]
     show dN c xb rb np rs _ ls E τ F (kX c lh s ls (k+1)) A
     rw[M.o];unfold cF;rw[nC];exact HI3.o.less λp hp=>du _ hp)
    clear T j nC;go_wp2;go_roundw
    case rel=>exact⟨k+1,by simp,by omega,U.o⟩
    case measure=>simp[intOf];omega
   .rw[aI rfl]
    have HI4:=au (HI3.o.below ((aO A A).drew));have HSE:=au (HI4.o.send (by have:=HD1.o;have:=HB1.o;omega) lh lt.dst (dI.reads (show dI u A.drew bv lt.m.frame from Own.below (T nC) ((aO A A).drew))) (by have:=EP nC;omega));have⟨x2,xl,rl,xe⟩:=HI4.o.cells;have B:=xe lb _ (iK ..);have K0:=au (show A.drew.cell? ⟨xb,2,none⟩=np/\A.drew.cell? lb=lt.dst from⟨x2,aF B _ rfl⟩);have HK:=au (show∀(st':di×cS) (z:ae),dN c xb rb np rs (av (some ⟨b,off,none⟩) ls.length lc) ls ((lb,aB #[lt.dst,.iface mt mx] 187 (0,0))::E) τ F st' z->z.cell? ⟨xb,2,none⟩=np/\z.cell? lb=lt.dst fromλst' z hz=>by
     have⟨x2,xl,rl,xe⟩:=hz.cells;have B:=xe lb _ (iK ..);exact⟨x2,aF B _ rfl⟩)
    have G:=au nC;clear T j nC x2 xe B;have⟨ok,d⟩:=aD (decide ((st.1.net.length:Int)<c.net));rw[<-d]at HSE;have Cv:=au d;clear d;go_upto_region 5 with fail
    go_region_held3 (λw'=>w'.cell? ⟨xb,2,none⟩=np/\w'.cell? lb=lt.dst) (first|(with_reducible exact K0.o)|(with_reducible exact K1.o)) (first
     |(go_at_call 96;refine HSE.m ?_;rintro e l ⟨rfl,V⟩;have K1:=au (HK.o _ l V);have S2:=au V;clear V))
    have⟨st2,g⟩:= @aD (di×cS) ({st.1 with next:=st.1.next+1,net:=sx c.net st.1.net ⟨st.1.next,lh,lt.dst,lt.m.frame,false⟩},st.2);have C:=S2.o;rw[<-g]at C;have S2d:=C.below ((aO l l).drew);obtain⟨v0,v',z,r1,⟨i1,i2,i3,rfl⟩,r3,⟨j1,j2,j3,rfl⟩,r5,r6,r7⟩:=S2d.sent (st.1.next,lh,lt.dst) (by rw[g];have:=HD2.o;have:=HB2.o;show st.2.sent.length<=1000000;omega);have r1':l.cell? ⟨rb,9,none⟩=some (av i1 i2 i3):=r1;obtain⟨-,l0⟩:=HK.o st2 l C;have rbl:rb<l:=iV l _ r1';have lbl:lb<l:=iV l _ l0;have rbz:rb<z:=iV z _ r5;have r1a:∀o,(l.alloc o).cell? ⟨rb,9,none⟩=some (av i1 i2 i3):=λo=>(((aO l l).alloc (aP _) o).cell (p:=⟨rb,9,none⟩) rbl).trans r1'
    have⟨q,S3,r⟩:=aX r3 r7 g;clear C S2d r1 r3 r7 g;go_upto_region 6 with fail
    go_region_law (first
     |(refine iU (by rfl) (.tmp 44) (.tmp 50) 42 (by rfl) _ _ _ z (by rfl) (by rfl) (q.o _) ?_)
     |fail)
    all_goals
     generalize hY:World.setCell z _ _=y3;have s3:=S3.o;rw[hY]at s3;have S4:=au s3;clear s3 hY r1a r5 r6;cases d:ok
     .obtain⟨v1,v1',z2,t1,⟨k1,k2,k3,rfl⟩,t3,⟨l1,l2,l3,rfl⟩,t5,t6,t7⟩:=S4.o.lost st.1.next (by rw[r.o];have:=HD3.o;have:=HB3.o;show st.2.lost.length<=1000000;omega)
      have t1':y3.cell? ⟨rb,11,none⟩=some (av k1 k2 k3):=t1;have rb3:rb<y3:=iV y3 _ t1';have t1a:∀o,(y3.alloc o).cell? ⟨rb,11,none⟩=some (av k1 k2 k3):=λo=>(((aO y3 y3).alloc (aP _) o).cell (p:=⟨rb,11,none⟩) rb3).trans t1'
      have rb2:rb<z2:=iV z2 _ t5;have q:=au t3;have U:=au (show W (k+1) (z2.setCell ⟨rb,11,none⟩ (av l1 l2 l3))by
       have t8:=t7.less (E':=E) λp hp=>du _ hp
       rw[x.o]
       show dN c xb rb np rs _ ls E τ F (kX c lh s ls (k+1)) _
       rw[M.o];unfold cF;rw[G.o,aI rfl];have ho:=Cv.o;rw[d]at ho;rw[aC (by simpa using ho.symm)];rw[r.o]at t8;exact t8)
      clear t3 t7 d;go_wp2_with (refine cE (by rfl) (.tmp 60) (.tmp 62) 43 (by rfl) _ _ _ z2 (by rfl) (by rfl) (q.o _) ?_);go_roundw
      case rel=>exact⟨k+1,by simp,by omega,U.o⟩
      case measure=>simp[intOf];omega
     .have U:=au (show W (k+1) y3 by
       have t8:=S4.o.less (E':=E) λp hp=>du _ hp
       rw[x.o]
       show dN c xb rb np rs _ ls E τ F (kX c lh s ls (k+1)) _
       rw[M.o];unfold cF;rw[G.o,aI rfl];have ho:=Cv.o;rw[d]at ho;rw[aI (by simpa using ho.symm)];rw[r.o]at t8;exact t8)
      clear d;go_wp2;go_roundw
      case rel=>exact⟨k+1,by simp,by omega,U.o⟩
      case measure=>simp[intOf];omega
  .obtain rfl:k=ls.length:=by omega
   have U:=au (Z.o wr f);clear f;go_wp2
   go_end0
   exact⟨rfl,U.o⟩
def SdT(c:aV)(xb rb np:Nat)(rs:List cS)(v:ah)(ls:List fF)(E:List (Nat×Obj))(τ:cj)(w:ae)(s:di×cS)(br:cj)(wr:ae):Prop:=
 ∃m rm,kj c br wr m rb rm s.1 rs/\m.xb=xb/\m.np=np/\rm.r=s.2/\Fr (uA rs.length) τ br w wr/\gK (λb=>br b≠.net/\br b≠.rc rs.length) wr v ls/\∀b o,(b,o)∈E->wr.heap[b]? =some o/\br b=.tmp
def dN.op(h:dN c xb rb np rs v ls E τ w s wr):∃br,SdT c xb rb np rs v ls E τ w s br wr:=h
def dN.mute(h:dN c xb rb np rs v ls E τ w s wr):dN c xb rb np rs () [] E τ w s wr:=by
 obtain⟨br,m,a,b,d,e,f,g,j,i⟩:=h;exact⟨br,m,a,b,d,e,f,g,gK.nil _ _,i⟩
def SdT.same(h:SdT c xb rb np rs v ls E τ w s br wr)(d:ai wr wr y)(t:Tg):SdT c xb rb np rs v ls E τ w s (eP br wr t) y:=by
 obtain⟨m,g,i,j,l,n,p,q,r⟩:=h;have⟨u,z⟩:=i.same d t;have a:Fr (λ_=>False) br (eP br wr t) wr y:=Fr.of_below d _ _ _;refine⟨m,g,u,j,l,n,p.trans z,q.fr a (λ_ e=>e.elim),λb o e=> ?_⟩;have⟨f,A⟩:=r b o e;exact⟨a.at f id,by rw[a.old b (az f)];exact A⟩
def dN.YL(h:dN c xb rb np rs v ls E τ w s wr)(i:Int):
 aj prog 98 #[np,(i:Int)] wr λe y=>∃fv,e=ax (aM #[(ij s.1.net i).val fv,aw (qm s.1.net.length i)])/\(∃a n k,fv=av a n k)/\dc y .u8 fv (ij s.1.net i).fr/\
  dN c xb rb np rs v ls E τ w ({s.1 with net:=gG s.1.net i},s.2) y:=by
 obtain⟨br,m,q,h1,h2,d,r,u,z,A⟩:=h;have⟨B,n1,n2,g⟩:=h1.cl.net.call;rw[d]at n2 g;refine(Jl n2 i).mono ?_;rintro e y ⟨fv,rfl,fb,j,C,F,G⟩;have⟨l,p1,p2,_,_⟩:=g fb.toList y _ _ .tmp C F G;rw[<-d]at p1;have⟨H,I⟩:=h1.abE p1 p2;have⟨J,K,f,_⟩:=j.len;refine⟨fv,rfl,⟨_,_,_,f⟩,gC j,_,m,q,H,h2,d,r,u.trans I,z.fr p2 (λt e=>.inl e),λb o e=> ?_⟩;have⟨a1,p⟩:=A b o e;exact⟨p2.at a1 (by rw[p];simp),by rw[p2.old b (az a1)];exact p⟩
def dN.got(h:dN c xb rb np rs v ls E τ w s wr)(id:Int):
 (∃o,wr.cell? ⟨rb,10,none⟩=some o)/\wr.frozen? ⟨rb,10,none⟩=false/\dN c xb rb np rs v ls E τ w (s.1,{s.2 with got:=id}) (wr.setCell ⟨rb,10,none⟩ (id:Int)):=by
 obtain⟨br,m,b,h1,h2,d,e,f,g,i⟩:=h;have a:=h1.rb.bx;rw[<-e];have⟨j,l⟩:=h1.rb.put 10 (id:Int) {b with r:={b.r with got:=id}} rfl rfl rfl rfl rfl rfl rfl;exact⟨⟨an ar b.r.got,by simp[World.cell?,a,RcM.cells,cO.cells]⟩,bB a _,dN.Rv h1 h2 d f g i j l rfl⟩
def Vt(c:aV)(xb rb np:Nat)(rs:List cS)(E:List (Nat×Obj))(mv:cd)(iv:ah)(τ:cj)(w:ae)(s:di×cS)(wr:ae):Prop:=
 ∃br,SdT c xb rb np rs () [] E τ w s br wr/\∀r,mv=.dj r->∃ig,Seg wr 83 2 ig iv (dT r.items) r.items.length/\∀b,ig=some b->br b=.keep
def Vt.sdi{a:cd}{iv:ah}(h:Vt c xb rb np rs E a iv τ w s wr):dN c xb rb np rs () [] E τ w s wr:=by
 obtain⟨br,b,_⟩:=h;exact⟨br,b⟩
def dN.decode{o:Option cd}{n:Int}{e:ak}(h:dN c xb rb np rs () [] E τ w s wr)(j:lW o n wr e y):
 ∃iv,e=ax (aM #[Uj iv o,an ar n])/\(∃a n q,iv=av a n q)/\dN c xb rb np rs () [] E τ w s y/\∀d,o=some d->Vt c xb rb np rs E d iv τ w s y:=by
 obtain⟨br,l⟩:=h;obtain⟨iv,m,rfl,g,p,t⟩:=j;have i:=SdT.same (br:=br) l t .keep;have⟨B,C,f,_⟩:=g.len;refine⟨iv,rfl,⟨_,_,_,f⟩,⟨_,i⟩,λd u=>⟨_,i,λr z=>⟨m,?_,λb A=>d_ (p b A)⟩⟩⟩;subst u;subst z;exact g
def Vt.below{a:cd}{iv:ah}(h:Vt c xb rb np rs E a iv τ w s wr)(b:ai wr wr y):Vt c xb rb np rs E a iv τ w s y:=by
 obtain⟨br,d,e⟩:=h;refine⟨_,d.same b .tmp,λr f=> ?_⟩;have⟨g,i,j⟩:=e r f;have⟨l,m⟩:=i.fr (P:=λ_=>False) (Fr.of_below b _ br .tmp) j id;exact⟨g,l,m⟩
variable{x:di}
def lx.node{m:I3}(f:lx c br wr m x rs)(p:m.xb=xb):∃b a d,wr.cell? ⟨xb,1,none⟩=some (av (some ⟨b,a,none⟩) (x.ws.length+1) d)/\x.ws.length<=maxLen/\b<wr.heap.size/\
 wr.cell? ⟨b,a,none⟩=some (.iface 124 (aG #[m.co.cb]))/\(∀k (i:k<m.ws.length),wr.cell? ⟨b,a+(k+1),none⟩=some (.iface 93 (aG #[aL (some ⟨(m.ws[k]).bx,0,none⟩)]))):=by
 have j:=f.bx;rw[p]at j;have g:=f.wl;have⟨b,a,d,A,l,q,r⟩:=f.nd.cell (by decide) 0 (by omega);have⟨_,_,_,_,t⟩:=f.nd.len;refine⟨b,a,d,by rw[<-g];simp[World.cell?,j,l],by omega,q,?_,λk i=> ?_⟩
 .simpa using(r 0 _ (by decide) (by simp[vJ])).1
 .have⟨B,n,o,u,e,z,h⟩:=f.nd.cell (by decide) (k+1) (by omega)
  rw[l]at e;simp only[bG,bA,dr,et,bK]at e;obtain⟨⟨rfl,rfl⟩,rfl⟩:=e;simpa using(h 0 (.iface 93 (aG #[aL (some ⟨(m.ws[k]).bx,0,none⟩)])) (by decide) (by simp[vJ,i])).1
def kj.node{m:I3}{e:RcM}(f:kj c br wr m rb e s.1 rs)(g:m.xb=xb):∃b a d,wr.cell? ⟨xb,1,none⟩=some (av (some ⟨b,a,none⟩) (s.1.ws.length+1) d)/\s.1.ws.length<=maxLen/\b<wr.heap.size/\
 wr.cell? ⟨b,a,none⟩=some (.iface 124 (aG #[m.co.cb]))/\(∀k (h:k<m.ws.length),wr.cell? ⟨b,a+(k+1),none⟩=some (.iface 93 (aG #[aL (some ⟨(m.ws[k]).bx,0,none⟩)]))):=f.cl.node g
variable{k:Nat}
def di.vO(a:k<x.ws.length):x.wk ((k+1:Nat):Int)=some (x.ws.getD k ()):=by
 unfold di.wk;rw[aI (by omega)];simp
def RG(a:k<x.ws.length):lM x ((k+1:Nat):Int)=(x.ws.getD k ()).up:=by
 unfold lM;rw[aC (by omega),di.vO a]
def KF(b:k<x.ws.length)(a:cd):fL c x ((k+1:Nat):Int) a=({x with ws:=x.ws.set k (dD (x.ws.getD k ()) a)},[]):=by
 unfold fL di.upd;rw[aC (by omega),di.vO b];unfold di.set;simp
def Vt.Vu{f:cd}{iv:ah}(h:Vt c xb rb np rs E f iv τ w s wr):∃b a g p,wr.cell? ⟨xb,1,none⟩=some (av (some ⟨b,a,none⟩) (s.1.ws.length+1) g)/\s.1.ws.length<=maxLen/\b<wr.heap.size/\
 wr.cell? ⟨b,a,none⟩=some (.iface 124 (aG #[aL (some ⟨p,0,none⟩)]))/\
 (∀z,aj prog 241 #[aG #[aL (some ⟨p,0,none⟩)]] z (λe y=>e=ax (aw true)/\ai z z y))/\
 ∀B,cI c B s.1.co->B<=1000000000->f.may=true->(∀t∈s.1.co.told,t.items.length<=100000)->
  aj prog 242 #[aG #[aL (some ⟨p,0,none⟩)],f.val iv] wr λe y=>∃v,e=ax v/\dN c xb rb np rs v (fL c s.1 0 f).2 E τ w ((fL c s.1 0 f).1,s.2) y:=by
 obtain⟨br,K,L⟩:=h;obtain⟨d,m,A,C,M,N,O,g6,Q⟩:=K;have⟨b,a,g,T,U,V,W,c5⟩:=A.node C;refine⟨b,a,g,d.co.cb,T,U,V,W,abL _,λB n X F Y=> ?_⟩
 .refine(af0 (R:=λe y=>∃v,e=ax v/\dN c xb rb np rs v (fL c s.1 0 f).2 E τ w ((fL c s.1 0 f).1,s.2) y) (λy G=> ?_) (λe y Z=> ?_))
  .have⟨H,k2⟩:=A.same G .tmp
   have i:Fr (λ_=>False) br (eP br wr .tmp) wr y:=Fr.of_below G _ _ _;refine(abI H.cl.co n X f F iv (λr I=> ?_) Y).mono ?_
   .have⟨ig,i1,i2⟩:=L r I
    have⟨j1,j2⟩:=i1.fr i i2 id;subst I;exact⟨ig,j1,j2,λz hz=>bD ((FT F).2.2 z hz).2.2 (by decide)⟩
   .rintro e z ⟨v,rfl,l1,l2⟩
    have⟨q,m2,t1,t2,j,t4⟩:=l2.tidy;refine⟨v,rfl,q,⟨d.xb,m2,d.ws,d.nv,d.ng,d.np,d.rv,d.rg,d.rs⟩,m,H.ND t1 t2 j,C,M,N,(O.trans k2).trans (j.mono λt e=>Ga _ e),?_,λb o e=> ?_⟩
    .refine(gK.of l1).mono λb hb=> ?_
     obtain l|l:=t4 b hb.1
     .refine⟨λe=> ?_,λe=> ?_⟩<;>rw[e]at l<;>simp[dB]at l
     .rw[l];simp
    .have⟨u,a2⟩:=Q b o e
     have J:=(i.old b (az u)).trans a2;exact⟨j.at (i.at u id) (by rw[J];simp[dB]),(j.old b (az (i.at u id))).trans J⟩
  .obtain⟨v,e1,_⟩:=Z
   exact⟨v,e1⟩
def Vt.outer{j:cd}{iv:ah}(h:Vt c xb rb np rs E j iv τ w s wr)(C:k<s.1.ws.length):∃b f i p,wr.cell? ⟨xb,1,none⟩=some (av (some ⟨b,f,none⟩) (s.1.ws.length+1) i)/\s.1.ws.length<=maxLen/\b<wr.heap.size/\
 wr.cell? ⟨b,f+(k+1),none⟩=some (.iface 93 (aG #[aL (some ⟨p,0,none⟩)]))/\
 (∀z,ai wr wr z->aj prog 216 #[aG #[aL (some ⟨p,0,none⟩)]] z (λe y=>e=ax (aw (s.1.ws.getD k ()).up)/\ai z z y))/\
 (j.may=true->
  aj prog 217 #[aG #[aL (some ⟨p,0,none⟩)],j.val iv] wr λe y=>e=ax ()/\dN c xb rb np rs () [] E τ w ((fL c s.1 ((k+1:Nat):Int) j).1,s.2) y):=by
 obtain⟨br,I,h2⟩:=h;obtain⟨d,r,m,F,J,K,L,g6,M⟩:=I;have⟨b,f,i,N,O,Q,c4,T⟩:=m.node F;have g:k<d.ws.length:=by rw[m.cl.wl];exact C
 refine⟨b,f,i,(d.ws[k]).bx,N,O,Q,T k g,λz U=>abM ((m.fu U).cl.ws k g),λV=> ?_⟩
 .refine af2 (R:=λy=>dN c xb rb np rs () [] E τ w ((fL c s.1 ((k+1:Nat):Int) j).1,s.2) y) λy G=> ?_
  have⟨H,W⟩:=m.same G .tmp;have u:Fr (λ_=>False) br (eP br wr .tmp) wr y:=Fr.of_below G _ _ _;refine(abG (H.cl.ws k g) j iv λa X=> ?_).mono ?_
  .subst X
   have⟨l,A,n,_⟩:=AL (show nG a=true from V);have:=l a.aR (by simp);exact⟨bD A (by decide),bD n (by decide),eN (by omega) (by omega)⟩
  .rintro e z ⟨rfl,B,Y,Z,t2,q⟩
   refine⟨rfl,B,⟨d.xb,d.co,d.ws.set k Y,d.nv,d.ng,d.np,d.rv,d.rg,d.rs⟩,r,?_,F,J,K,(L.trans W).trans (q.mono λt e=>zM _ e),gK.nil _ _,λb o e=> ?_⟩
   .have:=H.PH g Z t2 q
    rw[KF C];exact this
   .have⟨l,A⟩:=M b o e
    have n:=(u.old b (az l)).trans A;exact⟨q.at (u.at l id) (by rw[n];simp[e_,iP]),(q.old b (az (u.at l id))).trans n⟩
def Ge(n:Nat)(r:Option cd×(Nat×Bool)):pQ n r=(none,8)∨∃m,pQ n r=(some m,0)/\m.may=true:=by
 unfold pQ;split
 .exact .inl rfl
 .split
  .exact .inl rfl
  .rename_i m _
   split
   .rename_i h;exact .inr ⟨m,rfl,h⟩
   .exact .inl rfl
def rV(bs:List Int):(∃n,sQ bs=(none,n)/\n≠0)∨∃m,sQ bs=(some m,0)/\m.may=true:=by
 unfold sQ;split
 .exact .inl ⟨8,rfl,by decide⟩
 split
 .exact .inl ⟨8,rfl,by decide⟩
 split
 .exact .inl ⟨9,rfl,by decide⟩
 obtain h|⟨m,h,a⟩:=Ge (bs.length-4) (gD (bs.take (bs.length-4)) (bs.getD 2 0) (3,false))
 .exact .inl ⟨8,h,by decide⟩
 .exact .inr ⟨m,h,a⟩
def RH(x:di)(d:Int)(m:cd):(fL c x d m).1.next=x.next:=by
 unfold fL;split
 .rfl
 .unfold di.upd
  split<;>rfl
def Vv{x:di}{m:cd}(h:(dU c x.co m).2.length<=1000)(d:Int):(fL c x d m).2.length<=1000:=by
 unfold fL;split
 .exact h
 .simp
def dN.shape(h:dN c xb rb np rs v ls E τ w s wr):∃a n k,v=av a n k:=by
 obtain⟨br,m,d,f,g,i,j,l,b,o⟩:=h;have⟨a,k,e,_⟩:=b.len;exact⟨_,_,_,e⟩
def af5(w:ae)(v:ah):(method 512 124 v "inkhorn/cluster.hears").run prog w=.ok (241,v) w:=by kernel_rfl
def af6(w:ae)(v:ah):(method 512 93 v "inkhorn/cluster.hears").run prog w=.ok (216,v) w:=by kernel_rfl
def af7(w:ae)(v:ah):(method 512 124 v "inkhorn/cluster.take").run prog w=.ok (242,v) w:=by kernel_rfl
def af8(w:ae)(v:ah):(method 512 93 v "inkhorn/cluster.take").run prog w=.ok (217,v) w:=by kernel_rfl
def ES(c:aV)(xb rb np:Nat)(rs:List cS)(E:List (Nat×Obj))(τ:cj)(w:ae)(x:di)(r:cS)(g:GV)(o:Option cd)(iv:ah)(b:Bool)(wr:ae):Prop:=
 if b then dN c xb rb np rs () [] E τ w (x,r) wr/\(∀m,o=some m->lM x g.tO=false)
 else∃m,o=some m/\m.may=true/\lM x g.tO=true/\Vt c xb rb np rs E m iv τ w (x,r) wr
def NJ{M:ae}{B:Int}(h:dN c xb rb np rs () [] E τ M s w)(i:Int)
 (hg:∀g∈s.1.net,cQ g.fr/\0<=g.tO/\g.tO<=s.1.ws.length) (hok:cI c B s.1.co) (hB:B<=1000000000) (htl:∀t∈s.1.co.told,t.items.length<=100000) (hL:∀m,m.may=true->(dU c s.1.co m).2.length<=1000)
 (hb1:s.1.next<=10000000) (hb2:s.2.sent.length<=1000) (hb3:s.2.lost.length<=1000):
 aj prog 67 #[xb,rb,(i:Int)] w λe w'=>e=ax (aM #[])/\dN c xb rb np rs () [] E τ M (eE c s.1 s.2 i) w':=by
 have HDL:=h.YL i;have⟨g,hgg⟩:=aD (ij s.1.net i);have⟨ok,j⟩:=aD (qm s.1.net.length i);have⟨a,G⟩:= @aD di ({s.1 with net:=gG s.1.net i});have HG:=au (show ok=true->cQ g.fr/\0<=g.tO/\g.tO<=a.ws.length fromλe=>by
  rw[G];rw[j]at e;refine hg g ?_;rw[hgg];unfold ij;rw[aI e];have⟨k,hk,hlt⟩:=rM e;exact bh _ _ (by omega))
 have HX:=au (show a.co=s.1.co/\a.ws=s.1.ws/\a.next=s.1.next by rw[G];exact⟨rfl,rfl,rfl⟩);have HV:=au (show eE c s.1 s.2 i=if ok then(match(sQ g.fr).1 with
  |none=>(a,{s.2 with lost:=s.2.lost++ [g.id]})
  |some m=>if lM a g.tO then dh c (fL c a g.tO m).1 (if g.sp then{s.2 with lost:=s.2.lost++ [g.id]}else{s.2 with got:=g.id}) g.tO (fL c a g.tO m).2 else(a,{s.2 with lost:=s.2.lost++ [g.id]}))
  else(s.1,s.2)from by
   unfold eE;rw[<-j,<-hgg,<-G];rfl)
 have HN:=au (show ok=false->a=s.1 fromλe=>by
  rw[j]at e;rw[G];unfold gG;rw[e];rfl)
 rw[<-hgg,<-j,<-G]at HDL;have HDL:=au HDL;have⟨c2,xl,rl,_⟩:=h.cells;have⟨q,hq⟩:=aD (eE c s.1 s.2 i);rw[<-hq]at HV⊢;obtain⟨L,gf,gt,gr,gs⟩:=g;clear h hq hgg j G hg;have⟨Cv,HTL,Uv,HB1,HB2,HB3⟩:=eC hok htl hL hb1 hb2 hb3;have HBB:=au hB;clear hok htl hL hb1 hb2 hb3 hB;go_in;go_wp2_with fail
 refine HDL.m ?_;rintro e y1 ⟨_,rfl,⟨fa,fn,fc,rfl⟩,hrd,hs1⟩;simp only[GV.val];have⟨u,hu⟩:=aD (y1.alloc (aB #[L,gf,gt,av fa fn fc,aw gs] 193 (0,0)));have⟨b1,bg,bl⟩:=dt hu;have hi2:=hs1.box _ hu;have N:=hrd.below bg.aJ;have⟨gb,hgb⟩:=aD y1.heap.size;have HLB:=au hgb;rw[<-hgb]at b1 bl hi2;have⟨HU,HI2⟩:=aK hu hi2;clear hs1 hrd hu hgb bg hi2;go_upto_region 1 with fail
 rw[<-HU.o,<-HLB.o];cases ok
 .have f:=au (show dN c xb rb np rs () [] E τ M q u by
   rw[HV.o,aC (by simp),<-HN.o rfl];exact HI2.o.less (λ_ hp=>du _ hp))
  clear N;go_wp2;refine fS (results_none rfl _ _ _) rfl ?_;exact⟨rfl,f.o⟩
 have⟨hby,O,Q⟩:=HG.o rfl;have hby:=hby;have O:=O;have Q:=Q;have HDC:=au (XH _ _ u N hby);have d3:=aF b1 3 rfl;clear b1 N hby;go_upto_region 2 with fail
 go_wp2_with fail
 refine HDC.m ?_;intro e y2 hd;obtain⟨iv,rfl,⟨ia,ik,im,hiv⟩,hs3,hk3⟩:=HI2.o.decode hd;obtain⟨t,rfl⟩:∃t:Nat,gt=t:=⟨gt.toNat,by omega⟩
 have ht2:t<=a.ws.length:=by omega
 have⟨HI3,HK3⟩:=aK hs3 hk3;have⟨o,ho⟩:=aD ((sQ gr).1);have⟨n,hn⟩:=aD ((sQ gr).2);have HDV:=au (rV gr);have⟨mv,H⟩:=aD (Uj iv o);rw[<-ho]at HK3;rw[<-ho,<-hn,<-H];have⟨HO,HN2,HMV⟩:=aX ho hn H;clear hd hs3 hk3 ho hn H hiv d3;have⟨_,_,yl3,ye⟩:=HI3.o.cells;have b3:=ye gb _ (iK ..);have gl3:=az b3;clear ye bl;go_upto_region 3 with fail
 go_cut [56] (λv wr=>∃b:Bool,v=aw b/\ES c xb rb np rs ((gb,aB #[L,gf,(t:Int),av fa fn fc,aw gs] 193 (0,0))::E) τ M a s.2 ⟨L,gf,t,gr,gs⟩ o iv b wr)
 case first=>
  obtain⟨n',l,I⟩|⟨m,l,I⟩:=HDV.o
  .obtain rfl:n=n':=by rw[HN2.o,l]
   obtain rfl:o=none:=by rw[HO.o,l]
   have g1:(n !=0)=true:=by simpa using I
   have f:=au (HI3.o.below ((aO y2 y2).drew));clear l I;go_upto_region 3 with fail
   go_region
   go_wp2;go_meet;exact⟨true,rfl,by unfold ES;rw[aI rfl];exact⟨f.o,by simp⟩⟩
  .obtain rfl:n=0:=by rw[HN2.o,l]
   obtain rfl:o=some m:=by rw[HO.o,l]
   have U:=HK3.o m rfl;have hmy:=I;have⟨af9,HKK⟩:=aK hmy U;obtain ht|ht:=Nat.eq_zero_or_pos t
   .have⟨b,r,cap,p,c1,c3,c4,c5,c6,_⟩:=U.Vu
    have q2:(t:Int)<((a.ws.length+1:Nat):Int):=by omega
    have q3:¬(t:Int)<0:=by omega
    have q4:¬((a.ws.length+1:Nat):Int)<=(t:Int):=by omega
    have c5':y2.cell? ⟨b,r+t,none⟩=some (.iface 124 (aG #[p])):=by rw[ht];exact c5
    have x:lM a t=true:=by unfold lM;rw[aI (by omega)]
    generalize A:a.ws.length+1=nw at*;have⟨HH,HHV⟩:=aK c6 x;have d2:=aF b3 2 rfl;clear U l I hmy c5 c6 x ht A O Q ht2 b3;go_upto_region 3 with fail
    have mH:=af5;refine cD (by kernel_rfl) (by kernel_rfl) ?_
    repeat (go_big_quiet_step (first|(go_at_call 241;exact cH (HH.o _))|fail))
    refine eV ?_;rintro _ ⟨yy,rfl⟩;have f:=au (HKK.o.below (bX y2 yy));clear mH;go_wp2;go_meet;exact⟨false,rfl,by unfold ES;rw[aC (by simp)];exact⟨m,rfl,af9.o,HHV.o,f.o⟩⟩
   .obtain⟨k,rfl⟩:∃k,t=k+1:=⟨t-1,by omega⟩
    have hk:k<a.ws.length:=by omega
    have⟨b,r,cap,p,c1,c3,c4,c5,c6,_⟩:=U.outer hk;have x:=RG hk;generalize(a.ws.getD k ()).up=up at*;have q2:((k+1:Nat):Int)<((a.ws.length+1:Nat):Int):=by omega
    have q3:¬((k+1:Nat):Int)<0:=by omega
    have q4:¬((a.ws.length+1:Nat):Int)<=((k+1:Nat):Int):=by omega
    clear hk ht O Q ht2;generalize k+1=t at*;generalize A:a.ws.length+1=nw at*;have⟨HH,HHV⟩:=aK c6 x;have d2:=aF b3 2 rfl;clear U l I hmy c6 x A b3;have mH:=af6;cases up
    .go_upto_region 3 with fail
     refine cD (by kernel_rfl) (by kernel_rfl) ?_
     repeat (go_big_quiet_step (first|(go_at_call 216;exact cH (HH.o _ (bX y2 _)))|fail))
     refine eV ?_;rintro _ ⟨yy,rfl⟩;have f:=au (HKK.o.sdi.below (bX y2 yy));clear mH;go_wp2;go_meet;exact⟨true,rfl,by unfold ES;rw[aI rfl];exact⟨f.o,λ_ _=>HHV.o⟩⟩
    .go_upto_region 3 with fail
     refine cD (by kernel_rfl) (by kernel_rfl) ?_
     repeat (go_big_quiet_step (first|(go_at_call 216;exact cH (HH.o _ (bX y2 _)))|fail))
     refine eV ?_;rintro _ ⟨yy,rfl⟩;have f:=au (HKK.o.below (bX y2 yy));clear mH;go_wp2;go_meet;exact⟨false,rfl,by unfold ES;rw[aC (by simp)];exact⟨m,rfl,af9.o,HHV.o,f.o⟩⟩
 case rest=>
  obtain⟨b,rfl,x⟩:=hcut;unfold ES at x;have wl:gb<wc/\rb<wc:=by
   cases b
   .rw[aC (by simp)]at x
    obtain⟨m,_,_,_,hk⟩:=x;have⟨_,_,a1,d⟩:=hk.sdi.cells;exact⟨az (d gb _ (iK ..)),a1⟩
   .rw[aI rfl]at x
    have⟨_,_,a1,d⟩:=x.1.cells;exact⟨az (d gb _ (iK ..)),a1⟩
  obtain⟨wl1,wl2⟩:=wl;cases b
  .rw[aC (by simp)]at x
   obtain⟨m,rfl,hm,hv,hk⟩:=x;have⟨T,hT⟩:=aD (fL c a t m);have HQ:=au (show q=dh c T.1 (if gs then{s.2 with lost:=s.2.lost++ [L]}else{s.2 with got:=L}) t T.2 by
    rw[HV.o];simp only[if_true];rw[<-HO.o];simp only;rw[aI hv,hT])
   have J:=au (show T.1.next<=10000000/\T.2.length<=1000 by
    rw[hT];refine⟨by rw[RH,HX.o.2.2];exact HB1.o,Vv (by rw[HX.o.1];exact Uv.o m hm) _⟩)
   have HTK:=au (show∀mvv,mvv=mv->mvv=m.val iv fromλ_ e=>by rw[e,HMV.o];rfl);obtain rfl:mv=m.val iv:=HMV.o;have⟨V,HTT⟩:=aK (hk.below ((aO wc wc).drew)) hT;have⟨K,W⟩:=aD (Obj.cells #[L,gf,(t:Int),av fa fn fc,aw gs] 193 (0,0));rw[<-W]at V;have X:=au W;clear hk hv hT W;go_upto_region 5 with fail
   go_cut [10] (λv wr=>dN c xb rb np rs v T.2 ((gb,K)::E) τ M (T.1,s.2) wr)
   case first=>
    obtain ht|ht:=Nat.eq_zero_or_pos t
    .have⟨b,r,cap,p,c1,c3,c4,c5,_,c7⟩:=V.o.Vu
     have C:=c7 B (by rw[HX.o.1];exact Cv.o) HBB.o hm (by rw[HX.o.1];exact HTL.o);have e0:fL c a 0 m=T:=by rw[HTT.o,ht];rfl
     rw[e0]at C;have q2:(t:Int)<((a.ws.length+1:Nat):Int):=by omega
     have c5':wc.cell? ⟨b,r+t,none⟩=some (.iface 124 (aG #[p])):=by rw[ht];exact c5
     have c1':wc.cell? ⟨xb,1,none⟩=some (av (some ⟨b,r,none⟩) (a.ws.length+1) cap):=c1;have c3':a.ws.length<=maxLen:=c3;unfold maxLen at c3';have⟨_,xl',_,d⟩:=V.o.sdi.cells;have a3:wc.heap[gb]? =some K:=d gb _ (iK ..);rw[X.o]at a3;have d2:=aF a3 2 rfl;generalize A:a.ws.length+1=nw at*;have HC:=au C;generalize H:m.val iv=mv at*;have mT:=af7;clear C c7 d a3 c1 c3 c4 c5 e0 ht A;go_upto_region 5 with fail
     go_still_tail 9,(by kernel_rfl)
     go_wp2_with fail
     refine HC.m ?_;rintro e y4 ⟨v4,rfl,Y⟩;have f:=au Y;clear Y mT;go_wp2;go_meet;exact f.o
    .obtain⟨k,rfl⟩:∃k,t=k+1:=⟨t-1,by omega⟩
     have hkl:k<a.ws.length:=by omega
     have⟨b,r,cap,p,c1,c3,c4,c5,_,c7⟩:=V.o.outer hkl;have C:=c7 hm;rw[<-HTT.o]at C;have e2:T.2=[]:=by rw[HTT.o,KF hkl]
     have HE2:=au e2;have q2:((k+1:Nat):Int)<((a.ws.length+1:Nat):Int):=by omega
     have c5':wc.cell? ⟨b,r+(k+1),none⟩=some (.iface 93 (aG #[p])):=c5;have c1':wc.cell? ⟨xb,1,none⟩=some (av (some ⟨b,r,none⟩) (a.ws.length+1) cap):=c1;have c3':a.ws.length<=maxLen:=c3;unfold maxLen at c3';have⟨_,xl',_,d⟩:=V.o.sdi.cells;have a3:wc.heap[gb]? =some K:=d gb _ (iK ..);rw[X.o]at a3;have d2:=aF a3 2 rfl;have HC:=au C;clear C c7 d a3 c1 c3 c4 c5 e2 hkl b3 ht O Q ht2;generalize A:a.ws.length+1=nw at*;generalize k+1=t at*;generalize H:m.val iv=mv at*;have mT:=af8;clear A H;go_upto_region 5 with fail
     go_still_tail 9,(by kernel_rfl)
     go_wp2_with fail
     refine HC.m ?_;rintro e y4 ⟨rfl,Y⟩;have f:=au (show dN c xb rb np rs () T.2 ((gb,K)::E) τ M (T.1,s.2) y4 by rw[HE2.o];exact Y);clear Y mT;go_wp2;go_meet;exact f.o
   case rest=>
    rename ae=>wd
    have h4:=hcut;clear hcut;obtain⟨va,vn,vc,rfl⟩:=h4.shape;have⟨_,_,rl4,d⟩:=h4.cells;have a3:=d gb _ (iK ..);rw[X.o]at a3;have d0:=aF a3 0 rfl;have d2:=aF a3 2 rfl;have d4:=aF a3 4 rfl;have H4:=au h4;clear h4 d a3 b3;cases gs
    .rw[aC (by simp)]at HQ
     have⟨⟨go,aqO⟩,aqP,aga⟩:=H4.o.got L;have F:=au aga;clear aga;generalize hY:World.setCell wd _ _=y5 at F;have⟨_,xl5,rl5,d⟩:=F.o.cells;have a3:=d gb _ (iK ..);rw[X.o]at a3;have e2:=aF a3 2 rfl;have HSD:=au (rU F.o t (by have:=J.o;simp only;omega) (by have:=J.o;have:=HB2.o;simp only;omega) (by have:=J.o;have:=HB3.o;simp only[bF,cG,dx];omega));have Mg:=au (show∀y,dN c xb rb np rs (av va vn vc) T.2 ((gb,K)::E) τ M (T.2.foldl (cF c t) (T.1,{s.2 with got:=L})) y->dN c xb rb np rs () [] E τ M q y fromλy hy=>by
      rw[HQ.o];exact hy.mute.less (λ_ hp=>du _ hp))
     clear d a3;have HYY:=au hY;clear hY;go_upto_region 9 with fail
     rw[HYY.o];go_wp2_with fail
     refine HSD.m ?_;rintro e y6 ⟨rfl,Z⟩;have f:=au (Mg.o y6 Z);clear Z;go_wp2
     go_end0
     exact⟨rfl,f.o⟩
    .rw[aI rfl]at HQ
     have hid:=H4.o.below ((aO wd wd).drew);obtain⟨v0,v',z,r1,⟨i1,i2,i3,rfl⟩,r3,⟨j1,j2,j3,rfl⟩,r5,r6,r7⟩:=hid.lost L (by have:=HB3.o;show s.2.lost.length<=1000000;omega);have r1':wd.cell? ⟨rb,11,none⟩=some (av i1 i2 i3):=r1;have r1a:=λo=>(((aO wd wd).alloc (aP _) o).cell (p:=⟨rb,11,none⟩) rl4).trans r1'
     have⟨gN,F⟩:=aK r3 r7;clear r7 hid r1 r3;generalize hY:World.setCell z _ _=y5 at F;have⟨_,xl5,rl5,d⟩:=F.o.cells;have a3:=d gb _ (iK ..);rw[X.o]at a3;have e2:=aF a3 2 rfl;have HSD:=au (rU F.o t (by have:=J.o;simp only;omega) (by have:=J.o;have:=HB2.o;simp only;omega) (by have:=J.o;have:=HB3.o;simp only[bF,cG,dx];omega));have Mg:=au (show∀y,dN c xb rb np rs (av va vn vc) T.2 ((gb,K)::E) τ M (T.2.foldl (cF c t) (T.1,{s.2 with lost:=s.2.lost++ [L]})) y->dN c xb rb np rs () [] E τ M q y fromλy hy=>by
      rw[HQ.o];exact hy.mute.less (λ_ hp=>du _ hp))
     clear d a3;have HYY:=au hY;clear hY;go_upto_region 7 with fail
     go_region_law (first
      |(refine iU (by rfl) (.tmp 84) (.tmp 87) 43 (by rfl) _ _ _ z (by rfl) (by rfl) (gN.o _) ?_)
      |fail)
     all_goals
      rw[HYY.o];go_wp2_with fail
      refine HSD.m ?_;rintro e y6 ⟨rfl,Z⟩;have f:=au (Mg.o y6 Z);clear Z;go_wp2
      go_end0
      exact⟨rfl,f.o⟩
  .rw[aI rfl]at x
   obtain⟨hi,hn⟩:=x;have hq:q=(a,{s.2 with lost:=s.2.lost++ [L]}):=by
    rw[HV.o];simp only[if_true];cases o with
    |none=>rw[<-HO.o]
    |some m=>rw[<-HO.o];simp only;rw[aC (by rw[hn m rfl];simp)]
   have hid:=hi.below ((aO wc wc).drew);obtain⟨v0,v',z,r1,⟨i1,i2,i3,rfl⟩,r3,⟨j1,j2,j3,rfl⟩,r5,r6,r7⟩:=hid.lost L (by have:=HB3.o;show s.2.lost.length<=1000000;omega);have⟨_,_,_,d⟩:=hi.cells;have a3:=d gb _ (iK ..);have d0:=aF a3 0 rfl;have r1':wc.cell? ⟨rb,11,none⟩=some (av i1 i2 i3):=r1;have r1a:=λo=>(((aO wc wc).alloc (aP _) o).cell (p:=⟨rb,11,none⟩) wl2).trans r1'
   have⟨gN,f⟩:=aK r3 (show dN c xb rb np rs () [] E τ M q (z.setCell ⟨rb,11,none⟩ (av j1 j2 j3))by rw[hq];exact r7.less (λ_ hp=>du _ hp));clear hi hn hq hid r1 r3 r7 d a3;go_upto_region 4 with fail
   go_region_law (first
    |(refine iU (by rfl) (.tmp 61) (.tmp 64) 43 (by rfl) _ _ _ z (by rfl) (by rfl) (gN.o _) ?_)
    |fail)
   all_goals
    go_wp2;refine fS (results_none rfl _ _ _) rfl ?_;exact⟨rfl,f.o⟩
def RI(l:List (Int×Int×Int)):∀u∈l.flatMap iE,u.oneCell'=true:=by
 intro u a;simp only[iE,List.mem_flatMap,bQ,ez,or_false]at a;obtain⟨x,_,rfl|rfl|rfl⟩:=a<;>rfl
def RJ(l:List Int):∀u∈l.flatMap dX,u.oneCell'=true:=by
 intro u a;simp only[dX,List.mem_flatMap,bQ,ez,or_false]at a;obtain⟨x,_,rfl⟩:=a;rfl
def RL{w:ae}{g:Option Nat}{v:ah}{l:List (Int×Int×Int)}(h:Seg w 56 3 g v (l.flatMap iE) l.length)(q:l.length<=1000000):
 aj prog 74 #[v] w λe w'=>∃a c,e=ax (av a l.length c)/\Own w 56 3 w' (av a l.length c) (l.flatMap iE) l.length/\ai w w w':=by
 obtain⟨a,f,rfl,_,r⟩:=h.len;unfold maxLen at r;have k:=λW=>lF (P:=prog) W 42 56 a l.length f 0 0 underlying42
 cases a with
 |none=>
  have s:l.length=0/\f=0:=by
   obtain⟨_,⟨_,i,_⟩|⟨b,t,m,u,_,i,_⟩⟩:=h
   .simp only[bG,bK]at i
    exact⟨i.1,i.2⟩
   .simp at i
  obtain⟨x,rfl⟩:=s;have:l=[]:=List.length_eq_zero_iff.1 x;subst this;clear h k;have k:=λW=>lF (P:=prog) W 42 56 none 0 0 0 0 underlying42
  simp only[dx];go_in;go_wp2;go_ret;exact⟨_,_,rfl,World.ownsRow_nil _ _ _ _,aO _ _⟩
 |some a=>
  have⟨A,B,w',d,n,p⟩:=h.tW 42 underlying42 EK rfl (by decide) (RI l) q (by decide);have⟨j,y,z⟩:=aX d n p;clear h d n p;go_in;go_wp2_with (refine cE (by rfl) (.tmp 5) (.tmp 6) 42 (by rfl) _ _ _ w' (by rfl) (by rfl) (j.o _) ?_);go_ret;exact⟨_,_,rfl,y.o,z.o⟩
def RM{w:ae}{g:Option Nat}{v:ah}{l:List Int}(h:Seg w 3 1 g v (l.flatMap dX) l.length)(q:l.length<=1000000):
 aj prog 75 #[v] w λe w'=>∃a c,e=ax (av a l.length c)/\Own w 3 1 w' (av a l.length c) (l.flatMap dX) l.length/\ai w w w':=by
 obtain⟨a,f,rfl,_,r⟩:=h.len;unfold maxLen at r;have k:=λW=>lF (P:=prog) W 43 3 a l.length f 0 0 underlying43
 cases a with
 |none=>
  have s:l.length=0/\f=0:=by
   obtain⟨_,⟨_,i,_⟩|⟨b,t,m,u,_,i,_⟩⟩:=h
   .simp only[bG,bK]at i
    exact⟨i.1,i.2⟩
   .simp at i
  obtain⟨x,rfl⟩:=s;have:l=[]:=List.length_eq_zero_iff.1 x;subst this;clear h k;have k:=λW=>lF (P:=prog) W 43 3 none 0 0 0 0 underlying43
  simp only[dx];go_in;go_wp2;go_ret;exact⟨_,_,rfl,World.ownsRow_nil _ _ _ _,aO _ _⟩
 |some a=>
  have⟨A,B,w',d,n,p⟩:=h.tW 43 underlying43 tQ rfl (by decide) (RJ l) q (by decide);have⟨j,y,z⟩:=aX d n p;clear h d n p;go_in;go_wp2_with (refine cE (by rfl) (.tmp 5) (.tmp 6) 43 (by rfl) _ _ _ w' (by rfl) (by rfl) (j.o _) ?_);go_ret;exact⟨_,_,rfl,y.o,z.o⟩
def qB(k0 k1 k2 k3:Int)(k4:ByteArray)(k5 k6 k7 k8 k10:Int)(sv lv:ah):List ah:=[an ar k0,an ar k1,an ar k2,an ar k3,aA k4,an ar k5,an ar k6,an ar k7,an ar k8,sv,an ar k10,lv]
def qC(k0 k1 k2 k3:Int)(k4:ByteArray)(k5 k6 k7 k8 k10:Int)(sv lv:ah):ah:=aG #[k0,k1,k2,k3,aA k4,k5,k6,k7,k8,sv,k10,lv]
def KG{g:Nat}(b d e f:Int)(i:ByteArray)(j k l m a:Int){sa n:Option Addr}{o sc p q:Nat}(h:w.heap[g]? =some (aB (qB b d e f i j k l m a (av sa o sc) (av n p q)).toArray 45 (0,0))):(loadVar 45 ⟨g,0,none⟩).run prog w=.ok (qC b d e f i j k l m a (av sa o sc) (av n p q)) w:=
 run_loadVar_row w g 45 45 _ (0,0) _ h underlying45 rfl (by kernel_rfl)
def pq(w:ae)(g:Nat)(k0 k1 k2 k3:Int)(k4:ByteArray)(k5 k6 k7 k8 k10:Int)(sv lv:ah):ae:=
 (World.setCell (World.setCell (World.setCell (World.setCell (World.setCell (World.setCell (World.setCell (World.setCell (World.setCell (World.setCell (World.setCell (World.setCell w ⟨g,0,none⟩ k0) ⟨g,1,none⟩ k1) ⟨g,2,none⟩ k2) ⟨g,3,none⟩ k3) ⟨g,4,none⟩ (aA k4)) ⟨g,5,none⟩ k5) ⟨g,6,none⟩ k6) ⟨g,7,none⟩ k7) ⟨g,8,none⟩ k8) ⟨g,9,none⟩ (sv)) ⟨g,10,none⟩ k10) ⟨g,11,none⟩ (lv))
def KH{g:Nat}{G H I J K L M N O Q f j:ah}(h:w.heap[g]? =some (aB #[G,H,I,J,K,L,M,N,O,Q,f,j] 45 (0,0)))(k l m n:Int)(o:ByteArray)(p q r s a:Int)(t u:ah):(pq w g k l m n o p q r s a t u).heap[g]? =some (aB (qB k l m n o p q r s a t u).toArray 45 (0,0)):=by
 have T:=h;have v:=aE (i:=0) T k;simp only[dF,cC,ct]at v;have x:=aE (i:=1) v l;simp only[dF,cC,ct]at x;have y:=aE (i:=2) x m;simp only[dF,cC,ct]at y;have z:=aE (i:=3) y n;simp only[dF,cC,ct]at z;have A:=aE (i:=4) z (aA o);simp only[dF,cC,ct]at A;have B:=aE (i:=5) A p;simp only[dF,cC,ct]at B;have C:=aE (i:=6) B q;simp only[dF,cC,ct]at C;have E:=aE (i:=7) C r;simp only[dF,cC,ct]at E;have F:=aE (i:=8) E s;simp only[dF,cC,ct]at F;have b:=aE (i:=9) F (t);simp only[dF,cC,ct]at b;have d:=aE (i:=10) b a;simp only[dF,cC,ct]at d;have e:=aE (i:=11) d (u);simp only[dF,cC,ct]at e;exact e
def ET(w:ae)(g:Nat)(b d e f:Int)(h:ByteArray)(i j k l a:Int)(m n:ah):aQ [g] w (pq w g b d e f h i j k l a m n):=
 (aQ.setCell (aQ.setCell (aQ.setCell (aQ.setCell (aQ.setCell (aQ.setCell (aQ.setCell (aQ.setCell (aQ.setCell (aQ.setCell (aQ.setCell (aQ.setCell (aQ.refl [g] w) ⟨g,0,none⟩ (by simp) _) ⟨g,1,none⟩ (by simp) _) ⟨g,2,none⟩ (by simp) _) ⟨g,3,none⟩ (by simp) _) ⟨g,4,none⟩ (by simp) _) ⟨g,5,none⟩ (by simp) _) ⟨g,6,none⟩ (by simp) _) ⟨g,7,none⟩ (by simp) _) ⟨g,8,none⟩ (by simp) _) ⟨g,9,none⟩ (by simp) _) ⟨g,10,none⟩ (by simp) _) ⟨g,11,none⟩ (by simp) _)
structure OwZ(w:ae)(B:Nat)(k0 k1 k2 k3:Int)(k4:ByteArray)(k5 k6 k7 k8 k10:Int)(ss:List (Int×Int×Int))(l:List Int)(sv lv:ah)(z:ae):Prop where
 b0:z.heap[B]? =some (aB #[an ar k0,an ar k1,an ar k2,an ar k3,aA k4,an ar k5,an ar k6,an ar k7,an ar k8,sv,an ar k10,lv] 45 (0,0))
 b1:z.heap[B+1]? =some (aB #[an ar 0,an ar 0,an ar 0,an ar 0,aA ⟨#[]⟩,an ar 0,an ar 0,an ar 0,an ar 0,(),an ar 0,()] 45 (0,0))
 s:∃g,Seg z 56 3 g sv (ss.flatMap iE) ss.length/\∀b,g=some b->B+2<=b
 l:∃g,Seg z 3 1 g lv (l.flatMap dX) l.length/\∀b,g=some b->B+2<=b
 bl:ai B w z
def owz{u y:ae}{B:Nat}(h j k m:Int)(n:ByteArray)(o p q r a:Int){s:List (Int×Int×Int)}{l:List Int}{E F d f:ah}(H:ai B w u)(C:ai u u y)(Z:u.heap.size=B+2)
 (M:u.heap[B]? =some (aB #[h,j,k,m,aA n,o,p,q,r,E,a,F] 45 (0,0))) (N:u.heap[B+1]? =some (aB #[an ar 0,an ar 0,an ar 0,an ar 0,aA ⟨#[]⟩,an ar 0,an ar 0,an ar 0,an ar 0,(),an ar 0,()] 45 (0,0)))
 (O:Own (B+2) 56 3 y d (s.flatMap iE) s.length) (Q:Own (B+2) 3 1 y f (l.flatMap dX) l.length):
 OwZ w B h j k m n o p q r a s l d f ((y.setCell ⟨B,9,none⟩ d).setCell ⟨B,11,none⟩ f)/\OwZ w B h j k m n o p q r a s l d f ((y.setCell ⟨B,11,none⟩ f).setCell ⟨B,9,none⟩ d):=by
 have I:=(ch C).at M (by simp);have T:=(ch C).at N (by simp);have⟨U,V,J⟩:=Own.Cs O;have⟨W,X,K⟩:=Own.Cs Q;have t:∀z,aQ [B] y z->z.heap[B]? =some (aB #[h,j,k,m,aA n,o,p,q,r,d,a,f] 45 (0,0))->OwZ w B h j k m n o p q r a s l d f z:=λz g e=>
  ⟨e,g.at T (by simp),⟨U,V.bH g (λb G=>by have:=J b G;simp;omega),J⟩,⟨W,X.bH g (λb G=>by have:=K b G;simp;omega),K⟩,
   (H.trans (C.mono (by omega))).trans (g.below (λx Y=>by simp at Y;omega) (by have:=H.size;have:=C.size;omega))⟩
 have L:∀z v,aQ [B] y z->aQ [B] y (z.setCell ⟨B,9,none⟩ v):=λz v g=>g.setCell ⟨B,9,none⟩ (by simp) v
 have A:∀z v,aQ [B] y z->aQ [B] y (z.setCell ⟨B,11,none⟩ v):=λz v g=>g.setCell ⟨B,11,none⟩ (by simp) v
 constructor
 .refine t _ (A _ _ (L _ _ (aQ.refl _ _))) ?_
  simpa using aE (i:=11) (aE (i:=9) I d) f
 .refine t _ (L _ _ (A _ _ (aQ.refl _ _))) ?_
  simpa using aE (i:=9) (aE (i:=11) I f) d
def PL(h i j m:Int)(p:ByteArray)(q r v A d:Int){E:List (Int×Int×Int)}{l:List Int}{Z lv:ah}{sg lg:Option Nat}(hs:Seg w 56 3 sg Z (E.flatMap iE) E.length)(hl:Seg w 3 1 lg lv (l.flatMap dX) l.length)(hn:E.length<=1000000)(hm:l.length<=1000000):
 aj prog 48 #[qC h i j m p q r v A d Z lv] w λe w'=>∃F G,e=ax (qC h i j m p q r v A d F G)/\(∃g,Seg w' 56 3 g F (E.flatMap iE) E.length/\∀b,g=some b->w.heap.size<=b)/\(∃g,Seg w' 3 1 g G (l.flatMap dX) l.length/\∀b,g=some b->w.heap.size<=b)/\(∃a n k,F=av a n k)/\(∃a n k,G=av a n k)/\ai w w w':=by
 have⟨va,vc,hsv,_⟩:=hs.len;have⟨ua,uc,hlv,_⟩:=hl.len;have⟨u,hu⟩:=aD ((w.alloc (aB #[h,i,j,m,aA p,q,r,v,A,Z,d,lv] 45 (0,0))).alloc (aB #[an ar 0,an ar 0,an ar 0,an ar 0,aA ⟨#[]⟩,an ar 0,an ar 0,an ar 0,an ar 0,(),an ar 0,()] 45 (0,0)));have⟨B,W⟩:=aD w.heap.size;have b0:u.heap[B]? =some (aB #[h,i,j,m,aA p,q,r,v,A,Z,d,lv] 45 (0,0)):=by rw[hu,W];exact(fH _ _ _ (by simp)).trans (a_ _ _)
 have b1:u.heap[B+1]? =some (aB #[an ar 0,an ar 0,an ar 0,an ar 0,aA ⟨#[]⟩,an ar 0,an ar 0,an ar 0,an ar 0,(),an ar 0,()] 45 (0,0)):=by
  have:B+1=(w.alloc (aB #[h,i,j,m,aA p,q,r,v,A,Z,d,lv] 45 (0,0))).heap.size:=by rw[W];simp
  rw[hu,this];exact a_ _ _
 have I:ai B w u:=by rw[hu,W];exact((aO _ _).alloc (aP _) _).alloc (by simp) _
 have J:u.heap.size=B+2:=by rw[hu,W];simp
 have HCS:=au (show∀z,ai u u z->aj prog 74 #[Z] z λe y=>∃a n k,e=ax (av a n k)/\Own (B+2) 56 3 y (av a n k) (E.flatMap iE) E.length/\ai u u y/\ai z z y fromλz K=>by
  have H:ai w w z:=by rw[<-W];exact I.trans (K.mono (by omega))
  refine(RL (hs.bH (ch H) (by simp)) hn).mono ?_;rintro e y ⟨a,k,rfl,ho,L⟩;exact⟨a,_,k,rfl,ho.mono (by rw[<-J];exact K.size),K.trans (L.mono K.size),L⟩)
 have HCI:=au (show∀z,ai u u z->aj prog 75 #[lv] z λe y=>∃a n k,e=ax (av a n k)/\Own (B+2) 3 1 y (av a n k) (l.flatMap dX) l.length/\ai u u y/\ai z z y fromλz K=>by
  have H:ai w w z:=by rw[<-W];exact I.trans (K.mono (by omega))
  refine(RM (hl.bH (ch H) (by simp)) hm).mono ?_;rintro e y ⟨a,k,rfl,ho,L⟩;exact⟨a,_,k,rfl,ho.mono (by rw[<-J];exact K.size),K.trans (L.mono K.size),L⟩)
 have HZ:=au (λ(y:ae) (F G:ah) (L:ai u u y) (h1:Own (B+2) 56 3 y F (E.flatMap iE) E.length) (h2:Own (B+2) 3 1 y G (l.flatMap dX) l.length)=>owz h i j m p q r v A d I L J b0 b1 h1 h2);have Ww:=au (show∀y,ai u u y->y.cell? ⟨B,9,none⟩=Z/\y.cell? ⟨B,11,none⟩=lv/\y.frozen? ⟨B,9,none⟩=false/\y.frozen? ⟨B,11,none⟩=false/\B<y fromλy L=>by
  have y0:=(ch L).at b0 (by simp);exact⟨aF y0 _ rfl,aF y0 _ rfl,bB y0 _,bB y0 _,az y0⟩)
 have⟨u9,Vw,f9,f11,_⟩:=Ww.o u (aO _ _);have⟨HU,HB,HBU⟩:=aX hu W (show ai u u u.drew from(aO _ _).drew);rw[hsv]at*;rw[hlv]at*;unfold qC;clear hs hl hu W I b0 b1 J hsv hlv;go_in;go_upto_region 1 with fail
 rw[<-HU.o,<-HB.o];go_region_law (first
  |(refine pI (x:=.tmp 4) (t:=42) (by rfl) 74 func74 (by kernel_rfl) (by kernel_rfl) (by rfl) _ (by kernel_rfl) (HCS.o _ (by first|exact HYI.o|exact HBU.o)) ?_;rintro e yS ⟨M,N,O,rfl,so,sb,sc⟩;refine⟨_,rfl,?_⟩;have⟨p9,p11,pf9,aku,pl⟩:=Ww.o _ sb;have Q:=au so;have HYS:=au sb;have X:=au sc;clear so sb sc)
  |(refine pI (x:=.tmp 7) (t:=43) (by rfl) 75 func75 (by kernel_rfl) (by kernel_rfl) (by rfl) _ (by kernel_rfl) (HCI.o _ (by first|exact HYS.o|exact HBU.o)) ?_;rintro e yI ⟨T,f,U,rfl,io,ib,ic⟩;refine⟨_,rfl,?_⟩;have⟨r9,TX,rf9,akv,rl⟩:=Ww.o _ ib;have V:=au io;have HYI:=au ib;have Y:=au ic;clear io ib ic)
  |fail)
 all_goals
  generalize hZW:World.setCell (World.setCell _ _ _) _ _=z;have HO:=au (show OwZ w B h i j m p q r v A d E l (av M N O) (av T f U) z by
   rw[<-hZW]
   first
    |exact(HZ.o yI _ _ HYI.o (Q.o.below Y.o) V.o).1
    |exact(HZ.o yS _ _ HYS.o Q.o (V.o.below X.o)).1
    |exact(HZ.o yI _ _ HYI.o (Q.o.below Y.o) V.o).2
    |exact(HZ.o yS _ _ HYS.o Q.o (V.o.below X.o)).2)
  clear hZW p9 p11 pf9 aku pl r9 TX rf9 akv rl u9 Vw f9 f11;have z0:=HO.o.b0;have z1:=HO.o.b1;have⟨q0,q1,q2,q3,q4,q5,q6,q7,q8,q9,q10,q11⟩:=mD z0;have⟨r0,r1,r2,r3,r4,r5,r6,r7,r8,r9,Xm,TX⟩:=mD z1;have fz:=bB z1;have zl:=az z0;have zl1:=az z1;have C:=au (show(pq z (B+1) h i j m p q r v A d (av M N O) (av T f U)).heap[B+1]? =some (aB (qB h i j m p q r v A d (av M N O) (av T f U)).toArray 45 (0,0))/\(∃g,Seg (pq z (B+1) h i j m p q r v A d (av M N O) (av T f U)) 56 3 g (av M N O) (E.flatMap iE) E.length/\∀b,g=some b->w.heap.size<=b)/\(∃g,Seg (pq z (B+1) h i j m p q r v A d (av M N O) (av T f U)) 3 1 g (av T f U) (l.flatMap dX) l.length/\∀b,g=some b->w.heap.size<=b)/\ai w w (pq z (B+1) h i j m p q r v A d (av M N O) (av T f U))by
   have hc2:aQ [B+1] z (pq z (B+1) h i j m p q r v A d (av M N O) (av T f U)):=ET z (B+1) _ _ _ _ _ _ _ _ _ _ _ _;have⟨g1,s1,s2⟩:=HO.o.s;have⟨g2,l1,l2⟩:=HO.o.l;have hb2:=HB.o;have hbl:=HO.o.bl;refine⟨KH z1 _ _ _ _ _ _ _ _ _ _ _ _,⟨g1,s1.bH hc2 (λb H=>by have:=s2 b H;simp;omega),λb H=>by have:=s2 b H;omega⟩,⟨g2,l1.bH hc2 (λb H=>by have:=l2 b H;simp;omega),λb H=>by have:=l2 b H;omega⟩,?_⟩;rw[<-hb2];exact hbl.trans (hc2.below (λx hx=>by simp at hx;omega) (by have:=az z1;omega)))
  clear z0 z1;go_upto_region 2 with fail
  go_wp2_with fail
  refine fS (w:=pq z (B+1) h i j m p q r v A d (av M N O) (av T f U)) (dV rfl rfl (KG _ _ _ _ _ _ _ _ _ _ C.o.1)) rfl ?_;exact⟨_,_,rfl,C.o.2.1,C.o.2.2.1,⟨_,_,_,rfl⟩,⟨_,_,_,rfl⟩,C.o.2.2.2⟩
def Vx(w:ae):aj prog 71 #[aL none] w λe w'=>∃n,e=ax (an ar n)/\w=w':=by
 go_in;go_wp2;go_ret;exact⟨_,rfl,rfl⟩
def NK(w:ae):aj prog 72 #[aL none] w λe w'=>∃n,e=ax (an ar n)/\w=w':=by
 go_in;go_wp2;go_ret;exact⟨_,rfl,rfl⟩
def KI(w:ae):aj prog 54 #[aL none] w λe w'=>e=ax (aL none)/\w=w':=by
 go_in;go_wp2;go_ret;exact⟨rfl,rfl⟩
def YM(s:Int)(w:ae):aj prog 102 #[aL none,(s:Int)] w λe w'=>∃n,e=ax (an ar n)/\w=w':=by
 have a:=au (Pj s w);go_in;go_wp2_with fail
 refine aH a.o ?_;go_wp2;go_ret;exact⟨_,rfl,rfl⟩
def abO(s a x:Int)(w:ae):aj prog 103 #[aL none,s,a,x] w λe w'=>∃n,e=ax (an ar n)/\w=w':=by
 have b:=au (Pj s w);go_in;go_wp2_with fail
 refine aH b.o ?_;go_wp2;go_ret;exact⟨_,rfl,rfl⟩
def Vy{m:I3}{x:di}{rs:List cS}(h:lx c τ w m x rs):aj prog 29 #[m.xb] w λe w'=>e=ax m.co.cb/\w=w':=by
 have a:=h.bx;have b:=aF a 0 rfl;generalize m.xb=xb at*;generalize m.co.cb=cb at*;clear h a;go_in;go_wp2;go_ret;exact⟨rfl,rfl⟩
def Vz{m:I3}{x:di}{rs:List cS}(h:lx c τ w m x rs)(i:Int)(a:¬(1<=i/\i<=x.ws.length)):aj prog 22 #[m.xb,(i:Int)] w λe w'=>e=ax (aL none)/\ai w w w':=by
 have⟨b,d,f,j,g,k,_,_⟩:=h.node rfl;unfold maxLen at g;generalize x.ws.length=n at*;generalize m.xb=xb at*;clear h;by_cases l:i<1
 .clear a
  go_in;go_wp2;go_ret;exact⟨rfl,aO _ _⟩
 .have o:((n+1:Nat):Int)<=i:=by omega
  clear a;generalize n+1=n1 at*;go_in;go_wp2;go_ret;exact⟨rfl,aO _ _⟩
def YN(w:ae)(a:Option Addr):(Instr.typeAssert (.iface 93 (aG #[aL a])) 96 93 true).run prog w=.ok (aM #[aG #[aL a],aw true]) w:=by kernel_rfl
def vP{m:I3}{x:di}{rs:List cS}(h:lx c τ w m x rs)(k:Nat)(f:k<m.ws.length):aj prog 22 #[m.xb,an ar ((k+1:Nat):Int)] w λe w'=>e=ax (aL (some ⟨(m.ws[k]).bx,0,none⟩))/\ai w w w':=by
 have⟨b,l,n,z,q,A,_,g⟩:=h.node rfl;have g:=g k f;have a:=h.wl;unfold maxLen at q;generalize(m.ws[k]).bx=p at*;have⟨u,d⟩:=aD (w.alloc (aB #[p] 93 (0,0)));have⟨i,j,B⟩:=dt d;have C:((k+1:Nat):Int)<((x.ws.length+1:Nat):Int):=by omega
 have E:¬((k+1:Nat):Int)<1:=by omega
 have F:¬((x.ws.length+1:Nat):Int)<=((k+1:Nat):Int):=by omega
 have G:(0:Int)<=((k+1:Nat):Int):=by omega
 generalize m.xb=xb at*;clear h f a;generalize k+1=t at*;generalize r:x.ws.length+1=n1 at*;have H:=aF i 0 rfl;have⟨s,v⟩:=aK d j.aJ;clear d j i r;have y:=YN;go_in;go_upto_region 4 with fail
 rw[<-s.o];go_wp2;go_ret;exact⟨rfl,v.o⟩
def cO.vl(e:cO):ah:=aG #[e.kind,e.node,e.at',e.x,aA e.text,e.k,(e.n:Int)]
def fM.disk{i:Nat}{m:CT}{v:gL}(h:fM τ w i m v){a:List jB}{f:sD->sD}(hd:kV br w' i m.dp m.db v.life a)(d:a.map jB.v=(m.cN.map jB.v).map f)(n:∀x,(f x).s=x.s)(fr:Fr (λt=>∃s,t=.FR i s) τ br w w'):
 fZ i m.bx {v with cN:=v.cN.map f} τ w w':=by
 have⟨l1,l2,g⟩:=h.q.lts;have⟨o,p⟩:=h.k.fr fr h.tk (by simp);have r:jS a=jS m.cN:=by
  have e1:jS a=(a.map jB.v).map sD.s:=by unfold jS;rw[fT];rfl
  have e2:jS m.cN=(m.cN.map jB.v).map sD.s:=by unfold jS;rw[fT];rfl
  rw[e1,e2,d,fT];exact jh λx _=>n x
 have hl:a.length=m.cN.length:=by
  have:=congrArg List.length d;simpa using this
 refine⟨br,{m with cN:=a},⟨fr.at h.c (by rw[h.tb];simp),?_,hd,?_,by rw[hl];exact h.ln,h.s.fr fr (by simp) (by simp),?_,(fr.old _ (az h.c)).trans h.tb,p,(fr.old _ l1).trans h.t1,(fr.old _ l2).trans h.t2,λb j=>(fr.old _ (g b j)).trans (h.t3 b j)⟩,rfl,fr.mono λt e=> ?_⟩
 .rw[r];exact o
 .show a.map jB.v=v.cN.map f
  rw[d,h.iv]
 .exact h.q.kept' (fr.block _ l1 (by rw[h.t1];simp)) (fr.block _ l2 (by rw[h.t2];simp)) (λx l=>fr.block _ (g x l) (by rw[h.t3 x l];simp))
 .obtain⟨s,rfl⟩:=e
  exact .inr (.inl (.inr (.inr ⟨s,rfl⟩)))
def abP(x:Int):wrap64 (IntKind.u64.wrap ((IntKind.u64.wrap x).tdiv 4096))=IntKind.u64.wrap x/4096:=by
 have h:IntKind.u64.wrap x=x%18446744073709551616:=rfl;have a:=Int.emod_nonneg x (show(18446744073709551616:Int)≠0 by decide);rw[h,Int.tdiv_eq_ediv_of_nonneg a];have b:IntKind.u64.wrap (x%18446744073709551616/4096)=(x%18446744073709551616/4096)%18446744073709551616:=rfl;rw[b];unfold wrap64;omega
def VA{i:Nat}{m:CT}{v:gL}(h:fM τ w i m v)(e:cO)(hs:ld e.at'):aj prog 73 #[m.dp,e.vl] w λa w'=>a=ax (aM #[])/\fZ i m.bx (gH e v) τ w w':=by
 have⟨u,p⟩:=aD (w.alloc (aB e.cells.toArray 33 (0,0)));have⟨b1,t,bl⟩:=dt p;have q:Fr (λ_=>False) τ (eP τ w .tmp) w u:=Fr.of_below t.aJ _ _ _;have h1:=h.fr q (λ_ _ h=>h) (λh=>h);have r:∀n y f,(∀x,(f x).s=x.s)->uy i m.dp m.db v.life m.cN f (eP τ w .tmp) u (ax (an ar n)) y->fZ i m.bx {v with cN:=v.cN.map f} τ w y:=λn y f b g=>by
  obtain⟨_,E,_,t1,t2,t3⟩:=g;have⟨A,m2,G,H,I⟩:=h1.disk t1 t2 b t3;exact⟨A,m2,G,H,(q.mono (λ_ e=>e.elim)).trans I⟩
 have L:=aF b1 0 rfl;have d2:=aF b1 2 rfl;have M:=aF b1 3 rfl;have F:=au (show u=w.alloc (aB #[e.kind,e.node,e.at',e.x,aA e.text,e.k,(e.n:Int)] 33 (0,0))from p);unfold cO.vl;by_cases j:e.kind=12
 .have b:gH e v={v with cN:=v.cN.map λz=>if z.s=e.at' then z.mend else z}:=by
   unfold gH;congr 1;refine jh λz _=> ?_
   unfold Ng;rw[aI j]
  have B:=au (show aj prog 102 #[m.dp,e.at'] u λa y=>∃n,a=ax (an ar n)/\fZ i m.bx (gH e v) τ w y by
   refine(aft h1.d e.at' hs).mono ?_;intro a y g;obtain⟨n,_,rfl,_⟩:=id g;refine⟨n,rfl,?_⟩;rw[b];exact r n y _ (λx=>by split<;>rfl) g)
  have J:(e.kind==12)=true:=by simpa using j
  generalize m.dp=dp at*;generalize fZ i m.bx (gH e v) τ w=Q at*;clear h h1 r p t b1 q b j hs;go_in;go_upto_region 1 with fail
  rw[<-F.o];go_wp2_with fail
  refine B.m ?_;rintro a y ⟨n,rfl,l⟩;have C:=au l;clear l;go_wp2;refine fS (results_none rfl _ _ _) rfl ?_;exact⟨rfl,C.o⟩
 .have b:gH e v={v with cN:=v.cN.map λz=>if z.s=e.at' then z.Ux (low e.x 4096) (IntKind.u64.wrap e.x/4096)else z}:=by
   unfold gH;congr 1;refine jh λz _=> ?_
   unfold Ng;rw[aC j]
  have B:=au (show aj prog 103 #[m.dp,e.at',an ar (wrap64 ((IntKind.u64.wrap e.x).tmod 4096)),an ar (wrap64 (IntKind.u64.wrap ((IntKind.u64.wrap e.x).tdiv 4096)))] u λa y=>∃n,a=ax (an ar n)/\fZ i m.bx (gH e v) τ w y by
   rw[zY _ _ (by decide) (by decide),abP];refine(ajU h1.d e.at' hs _ _).mono ?_;intro a y g;obtain⟨n,_,rfl,_⟩:=id g;refine⟨n,rfl,?_⟩;rw[b];exact r n y _ (λx=>by split<;>rfl) g)
  have K:(e.kind==12)=false:=by simpa using j
  generalize m.dp=dp at*;generalize fZ i m.bx (gH e v) τ w=Q at*;clear h h1 r p t b1 q b hs;go_in;go_upto_region 1 with fail
  rw[<-F.o];go_wp2_with fail
  refine B.m ?_;rintro a y ⟨n,rfl,l⟩;have C:=au l;clear l;go_wp2
  go_end0
  exact⟨rfl,C.o⟩
def KJ(w:ae)(e:cO):aj prog 73 #[aL none,e.vl] w λd w'=>d=ax (aM #[])/\ai w w w':=by
 have⟨u,f⟩:=aD (w.alloc (aB e.cells.toArray 33 (0,0)));have⟨b,g,t⟩:=dt f;have h:=au g.aJ;have v:=aF b 0 rfl;have z:=aF b 2 rfl;have A:=aF b 3 rfl;have⟨i,p,q⟩:=aX (show u=w.alloc (aB #[e.kind,e.node,e.at',e.x,aA e.text,e.k,(e.n:Int)] 33 (0,0))from f) (YM e.at' u) (λa x=>abO e.at' a x u);unfold cO.vl;obtain⟨j,B,r,x,C,E,d⟩:=e;by_cases l:j=12
 .subst l
  clear f g b;go_in;go_upto_region 1 with fail
  rw[<-i.o];go_wp2_with fail
  refine p.m ?_;rintro d y ⟨n,rfl,rfl⟩;go_wp2;refine fS (results_none rfl _ _ _) rfl ?_;exact⟨rfl,h.o⟩
 .have s:(j==12)=false:=by simpa using l
  clear f g b;go_in;go_upto_region 1 with fail
  rw[<-i.o];go_wp2_with fail
  refine(q.o _ _).mono ?_;rintro d y ⟨n,rfl,rfl⟩;go_wp2
  go_end0
  exact⟨rfl,h.o⟩
variable{σ:cj}
def KL:(prog.info? 45).map (λi=>(i.zero,i.size,i.bytes))=some (some (aG #[an ar 0,an ar 0,an ar 0,an ar 0,aA ⟨#[]⟩,an ar 0,an ar 0,an ar 0,an ar 0,(),an ar 0,()]),12,136):=by kernel_rfl
def Bh{b:Type}(l:List b)(a:b)(k:Nat)(d:k<l.length)(e:k<(l++ [a]).length):(l++ [a])[k]=l[k]:=List.getElem_append_left d
def kj.record{m:I3}{p:Nat}{g:RcM}{x:di}{rs:List cS}(h:kj c τ w m p g x rs)(W:rs.length<=1000000):∃v' z,w.cell? ⟨m.xb,3,none⟩=m.rv/\(∃a n k,m.rv=av a n k)/\
 (∀X,(Builtin.append_ #[36,36] X #[m.rv,av (some ⟨w,0,none⟩) 1 1]).run prog (w.alloc (aB g.cells.toArray 45 (0,0)))=.ok v' z)/\(∃a n k,v'=av a n k)/\
 z.cell? ⟨m.xb,3,none⟩=m.rv/\z.frozen? ⟨m.xb,3,none⟩=false/\
 ∃br m',lx c br (z.setCell ⟨m.xb,3,none⟩ v') m' x (rs++ [g.r])/\m'.xb=m.xb/\Fr (uA rs.length) τ br w (z.setCell ⟨m.xb,3,none⟩ v')/\(z.setCell ⟨m.xb,3,none⟩ v').heap[p]? =w.heap[p]? /\KA br (z.setCell ⟨m.xb,3,none⟩ v') rs.length g/\∀b,b<w.heap.size->τ b=.tmp->(z.setCell ⟨m.xb,3,none⟩ v').heap[b]? =w.heap[b]? :=by
 have q:=h.cl.bx;have o:=h.len;have⟨ra,rk,G,_,_⟩:=h.cl.rc.s.len;have⟨sa,sk,H,_⟩:=h.rb.a.s.len;have⟨la,lk,I,_⟩:=h.rb.a.l.len;have⟨v',z,B,Y,Q,v,Z⟩:=h.cl.rc.s.push 36 underlying36 KL rfl (by decide) g.cells rfl (λu J=>by
  unfold RcM.cells cO.cells at J;simp only[List.cons_append,List.nil_append,bQ,ez,or_false]at J;rcases J with rfl|rfl|rfl|rfl|rfl|rfl|rfl|rfl|rfl|rfl|rfl|rfl<;>first|rfl|(rw[H];rfl)|(rw[I];rfl)) (by rw[o];exact W) (by decide)
 have ng:∀b,m.rg=some b->b≠m.xb:=λb d e=>by subst e;exact jH h.cl.rc.s q (by decide) d
 have K:=v.block m.xb (az q) (λe=>ng m.xb (by simpa using e) rfl);have j:=K.trans q;have C:aQ [m.xb] z (z.setCell ⟨m.xb,3,none⟩ v'):=(aQ.refl _ _).setCell _ (by simp) _;have T:Fr (λt=>t=.recs∨t=.cl) τ (eP τ w .recs) w z:=Fr.dC v (λb d=>.inl (h.cl.rc.t b (by simpa using d))) _;have f2:Fr (λt=>t=.recs∨t=.cl) (eP τ w .recs) (eP τ w .recs) z (z.setCell ⟨m.xb,3,none⟩ v'):=Fr.fm C (λb d=>by
  simp only[cm]at d;subst d;exact .inr ((T.old _ (az q)).trans h.cl.t))
 have f:=T.trans f2;have L:p≠m.xb:=λe=>by
  have E:=h.rb.t;rw[e,h.cl.t]at E;cases E
 have y:=h.rb.a.fr f (by simp);have⟨va,vc,hv,_⟩:=Q.len;have M:=h.cl.nd.bH v (λb d e=>by
  have F:=h.cl.nt b d;have U:=h.cl.rc.t b (by simpa using e);rw[F]at U;cases U)
 have N:=M.bH C (λb d e=>by
  simp only[cm]at e;subst e;exact jH h.cl.nd q (by decide) d)
 refine⟨v',z,aF q _ rfl,⟨_,_,_,G⟩,Y,⟨_,_,_,hv⟩,aF j _ rfl,bB j _,
  eP τ w .recs,⟨m.xb,m.co,m.ws,m.nv,m.ng,m.np,v',B,m.rs++ [g]⟩,⟨?_,(f.old _ (az q)).trans h.cl.t,h.cl.co.fr f (λt A e=> ?_) (by simp),h.cl.wl,λi hi=>(h.cl.ws i hi).fr f (λt A e=> ?_) (by simp),N,λb d=>(f.old b (h.cl.nd.lt b d)).trans (h.cl.nt b d),h.cl.net.fr f (by simp),⟨?_,λk V=> ?_,λb d=> ?_⟩,?_⟩,rfl,f.mono λt e=> ?_,?_,y,λb d A=>f.block b d (by rw[A];simp)⟩
 .simpa using aE (i:=3) j v'
 .rcases e with rfl|rfl<;>simp[dB]at A
 .rcases e with rfl|rfl<;>simp[e_,iP]at A
 .have:Seg z 45 12 B v' ((m.rs++ [g]).flatMap RcM.cells) (m.rs++ [g]).length:=by
   rw[fQ,bF,List.flatMap_singleton];exact Q
  exact this.bH C (λb d e=>by
   simp only[cm]at e;subst e;exact jH this j (by decide) d)
 .have hk':k<m.rs.length+1:=by simpa using V
  by_cases e:k<m.rs.length
  .have:(m.rs++ [g])[k]=m.rs[k]:=Bh _ _ _ e _
   show KA _ _ k ((m.rs++ [g])[k])
   rw[this];exact(h.cl.rc.r k e).fr f (by simp)
  .obtain rfl:k=m.rs.length:=by omega
   have:(m.rs++ [g])[m.rs.length]=g:=by simp
   show KA _ _ m.rs.length ((m.rs++ [g])[m.rs.length])
   rw[this,o];exact y
 .obtain e|⟨b',e,O⟩:=Z
  .have d:B=some b:=d
   rw[e]at d;exact(f.old b (h.cl.rc.s.lt b d)).trans (h.cl.rc.t b d)
  .have d:B=some b:=d
   rw[e]at d;simp only[bA]at d;subst d;exact d_ O
 .show(m.rs++ [g]).map RcM.r=rs++ [g.r]
  rw[gF,h.cl.rv];rfl
 .refine⟨?_,λk V=> ?_⟩<;>rcases e with rfl|rfl<;>simp
 .have E:=C.block p (by have:=v.size;have:=az h.rb.bx;omega) (by simpa using L)
  have h2:=v.block p (az h.rb.bx) (λe=>by
   have F:=h.cl.rc.t p (by simpa using e);rw[h.rb.t]at F;cases F)
  exact E.trans h2
def dN.co(h:dN c xb rb np rs v ls E τ w s wr):∃i f,cJ c f wr i s.1.co/\wr.cell? xb=i.cb/\
 ∀y x' a m2 j d,cJ c a y m2 x'->m2.cb=i.cb->Fr dB f a wr y->gK (λb=>a b≠.net/\a b≠.rc rs.length) y j d->dN c xb rb np rs j d E τ w ({s.1 with co:=x'},s.2) y:=by
 obtain⟨br,m,n,h1,h2,p,q,r,A,u⟩:=h;have k:=h1.cl.bx;rw[h2]at k;refine⟨m.co,br,h1.cl.co,aF k _ rfl,λy x' a m2 j d x z g k4=> ?_⟩;refine⟨a,⟨m.xb,m2,m.ws,m.nv,m.ng,m.np,m.rv,m.rg,m.rs⟩,n,h1.ND x z g,h2,p,q,r.trans (g.mono λt e=>Ga _ e),k4,λb o e=> ?_⟩;have⟨a1,l⟩:=u b o e;exact⟨g.at a1 (by rw[l];simp[dB]),(g.old b (az a1)).trans l⟩
def dN.coP(h:dN c xb rb np rs v ls E τ w s wr):∃cb,wr.cell? xb=some (aL (some ⟨cb,0,none⟩))/\∃i d,i.cb=cb/\cJ c d wr i s.1.co/\
 (∀y x' f a,I2 c cb x' d wr y->eH wr y f a->dN c xb rb np rs f a E τ w ({s.1 with co:=x'},s.2) y)/\
 (∀y x' f a,CwP c cb (x',a) d wr f y->dN c xb rb np rs f a E τ w ({s.1 with co:=x'},s.2) y):=by
 have⟨i,d,n,o,m⟩:=h.co;refine⟨i.cb,o,i,d,rfl,n,λy x' f a l2 l1=> ?_,λy x' f a l=> ?_⟩
 .have⟨g,m2,t1,t2,t3,p⟩:=l2.tidy
  refine m y x' g m2 f a t1 t2 t3 ((gK.of l1).mono λb k=> ?_);obtain j|j:=p b k.1
  .refine⟨λe=> ?_,λe=> ?_⟩<;>rw[e]at j<;>simp[dB]at j
  .rw[j];simp
 .obtain⟨g,m2,q,t1,t2,t3⟩:=l
  exact m y x' g m2 f a t1 t2 t3 (q.mono λb k=>by rw[k.1];simp)
def dN.wo(h:dN c xb rb np rs v ls E τ w s wr){k:Nat}(q:k<s.1.ws.length):∃j i,fM i wr (k+1) j (s.1.ws.getD k ())/\
 aj prog 22 #[xb,an ar ((k+1:Nat):Int)] wr (λe y=>e=ax j.bx/\ai wr wr y)/\
 (∃b d cap,wr.cell? ⟨xb,1,none⟩=some (av (some ⟨b,d,none⟩) (s.1.ws.length+1) cap)/\s.1.ws.length<=maxLen/\b<wr.heap.size/\wr.cell? ⟨b,d+(k+1),none⟩=some (.iface 93 (aG #[j.bx])))/\
 ∀y v' a m2 n g,fM a y (k+1) m2 v'->m2.bx=j.bx->Fr (e_ (k+1)) i a wr y->gK (λb=>a b≠.net/\a b≠.rc rs.length) y n g->dN c xb rb np rs n g E τ w ({s.1 with ws:=s.1.ws.set k v'},s.2) y:=by
 obtain⟨br,m,r,h1,h2,u,x,z,F,A⟩:=h;have f:k<m.ws.length:=by rw[h1.cl.wl];exact q
 have⟨b,d,cap,c1,c2,c3,_,c5⟩:=h1.cl.node h2;refine⟨m.ws[k],br,h1.cl.ws k f,by have:=vP h1.cl k f;rw[h2]at this;exact this,⟨b,d,cap,c1,c2,c3,c5 k f⟩,λy v' a m2 n g B C l k4=> ?_⟩;refine⟨a,⟨m.xb,m.co,m.ws.set k m2,m.nv,m.ng,m.np,m.rv,m.rg,m.rs⟩,r,h1.PH f B C l,h2,u,x,z.trans (l.mono λt e=>zM _ e),k4,λb o e=> ?_⟩;have⟨a1,p⟩:=A b o e;exact⟨l.at a1 (by rw[p];simp[e_,iP]),(l.old b (az a1)).trans p⟩
def dN.zN(h:dN c xb rb np rs v ls E τ w s wr)(i:Int)(a:¬(1<=i/\i<=s.1.ws.length)):
 aj prog 22 #[xb,(i:Int)] wr (λe y=>e=ax (aL none)/\ai wr wr y):=by
 obtain⟨br,m,f,b,d,_⟩:=h;have:=Vz b.cl i a;rw[d]at this;exact this
def dN.nt(h:dN c xb rb np rs v ls E τ w s wr):∃F,NF 0 F wr np c.net s.1.next s.1.net/\∀y a,NF 0 F y np c.net s.1.next a->ai 0 wr y->Kept F wr y->dN c xb rb np rs v ls E τ w ({s.1 with net:=a},s.2) y:=by
 obtain⟨br,m,j,h1,h2,d,k,l,n,p⟩:=h;have⟨q,n1,n2,f⟩:=h1.cl.net.call;rw[d]at n2 f;refine⟨_,n2,λy a r u x=> ?_⟩;have⟨g,p1,p2,_,_⟩:=f [] y _ _ .tmp r u x;rw[<-d]at p1;have⟨z,A⟩:=h1.abE p1 p2;refine⟨_,m,j,z,h2,d,k,l.trans A,n.fr p2 (λt e=>.inl e),λb o e=> ?_⟩;have⟨a1,i⟩:=p b o e;exact⟨p2.at a1 (by rw[i];simp),by rw[p2.old b (az a1)];exact i⟩
def dN.judge(h:dN c xb rb np rs v ls E τ w s wr)(d id:Int):
 (∃o,wr.cell? ⟨rb,7,none⟩=some o)/\(∃o,wr.cell? ⟨rb,8,none⟩=some o)/\wr.frozen? ⟨rb,7,none⟩=false/\wr.frozen? ⟨rb,8,none⟩=false/\dN c xb rb np rs v ls E τ w (s.1,{s.2 with verdict:=d,id:=id}) ((wr.setCell ⟨rb,7,none⟩ d).setCell ⟨rb,8,none⟩ id):=by
 obtain⟨br,m,b,h1,h2,e,f,g,i,j⟩:=h;have a:=h1.rb.bx;rw[<-f];have⟨k,l⟩:=h1.rb.put 7 d {b with r:={b.r with verdict:=d}} rfl rfl rfl rfl rfl rfl rfl;have⟨n,p⟩:=k.put 8 id {b with r:={b.r with verdict:=d,id:=id}} rfl rfl rfl rfl rfl rfl rfl;exact⟨⟨an ar b.r.verdict,by simp[World.cell?,a,RcM.cells,cO.cells]⟩,⟨an ar b.r.id,by simp[World.cell?,a,RcM.cells,cO.cells]⟩,bB a _,bB a _,dN.Rv h1 h2 e g i j n (l.trans p) rfl⟩
def SbP(c:aV)(cb:Nat)(r:cB×(Int×Int)×List fF)(τ:cj)(w:ae)(e:ak)(w':ae):Prop:=∃v,e=ax (aM #[an ar r.2.1.1,an ar r.2.1.2,v])/\eH w w' v r.2.2/\I2 c cb r.1 τ w w'
def RN{m:jG}{x:cB}{B:Int}(h:cJ c τ w m x)(f:cI c B x)(hB:B<=900000)(text:ByteArray)(k n:Int)(ht:text.size<=1000)(d:(jD (ie text k n) x.who x.last).1≠3):
 aj prog 63 #[m.cb,aG #[aA text,k,n]] w (SbP c m.cb (dq c x text k n) τ w):=by
 have⟨u,z⟩:=aD (w.alloc (aB #[aA text,k,n] 31 (0,0)));have⟨J,A,W⟩:=dt z;have g:=A.aJ.drew;have⟨C,K⟩:=h.same g .keep;have E:=f.lb;have a:=OM C.s.at' text k n (by unfold maxLen;omega) (by omega);have⟨L,M⟩:=YA d;have b:=au a;have⟨R,F⟩:=aD (jD (ie text k n) x.who x.last);have N:=au (show∀y,eB y m.sp m.sa m.sb (CC (ie text k n) x.who x.last) (CD (ie text k n) x.who x.last)/\aQ [m.sp,m.sa,m.sb] u.drew y->SbP c m.cb (dq c x text k n) τ w (ax (aM #[an ar R.1,an ar R.2.1,()])) y fromλy ⟨i,j⟩=>by
  rw[L,M]at i;rw[iO d,F];have⟨X,Y⟩:=C.Zt i j .keep;exact⟨_,rfl,eH.nil _ _,_,m,X,rfl,K.trans Y⟩)
 rw[<-F]at b d;have G:=(h.fu A.aJ).cells;have l:=G.c15;have Z:=G.lt;have⟨O,T,U⟩:=oN J;have K0:=au (show u.drew.cell? ⟨m.cb,15,none⟩=m.sp/\u.drew.cell? w.heap.size=some (aA text)/\u.drew.cell? ⟨w,1,none⟩=k/\u.drew.cell? ⟨w,2,none⟩=n from⟨l,O,T,U⟩);have p:∀q∈[m.sp,m.sa,m.sb],q<w:=by
  intro q r;simp only[bQ,ez,or_false]at r;obtain rfl|rfl|rfl:=r
  .exact az h.s.at'.1
  .exact h.s.at'.2.1.lt
  .exact h.s.at'.2.2.1.lt
 have v:∀q∈[m.sp,m.sa,m.sb],τ q=.slot:=by
  intro q r;simp only[bQ,ez,or_false]at r;obtain rfl|rfl|rfl:=r
  .exact h.s.tp
  .exact h.s.ta
  .exact h.s.tb
 have HK:=au (show∀y,aQ [m.sp,m.sa,m.sb] u.drew y->y.cell? ⟨m.cb,15,none⟩=m.sp/\y.cell? w.heap.size=some (aA text)/\y.cell? ⟨w,1,none⟩=k/\y.cell? ⟨w,2,none⟩=n fromλy V=>by
  have H:=V.block w W (λe=>by have:=p _ e;omega);have I:=V.block m.cb Z (λe=>by have:=v _ e;rw[h.t]at this;cases this);exact⟨(cU I).trans l,(cU H).trans O,(cU H).trans T,(cU H).trans U⟩)
 have HU:=au z;generalize SbP c m.cb (dq c x text k n) τ w=Q at*;generalize m.cb=cb at*;generalize m.sp=sp at*;obtain⟨r1,r2,r3⟩:=R;simp only at b N d;have h3':(r1 !=3)=true:=by simpa using d
 clear h f C K G A J z g a L M F p v d E;go_in;go_upto_region 3 with fail
 rw[<-HU.o];go_region_held3 (λw'=>w'.cell? ⟨cb,15,none⟩=sp/\w'.cell? w.heap.size=some (aA text)/\w'.cell? ⟨w,1,none⟩=k/\w'.cell? ⟨w,2,none⟩=n) (first|(with_reducible exact K0.o)|(with_reducible exact K1.o)) (first
  |(go_at_call 91;refine b.m ?_;rintro e y ⟨rfl,i,j⟩;have K1:=au (HK.o y j);have Q1:=au (And.intro i j);clear i j))
 have HE:=au (N.o y Q1.o);go_wp2;go_ret3;exact HE.o
def NL{m:jG}{x:cB}{B:Int}(h:cJ c τ w m x)(a:cI c B x)(hB:B<=900000)(text:ByteArray)(k n:Int)(ht:text.size<=1000)(hn:∀t∈x.told,t.items.length<=100000)(h3:(jD (ie text k n) x.who x.last).1=3):
 aj prog 63 #[m.cb,aG #[aA text,k,n]] w (SbP c m.cb (dq c x text k n) τ w):=by
 have⟨nC,C,hR,hW,hL⟩:=nP h3;obtain⟨-,mk0,mk4,mn1,aqX⟩:=vA nC;have⟨u,hu⟩:=aD (w.alloc (aB #[aA text,k,n] 31 (0,0)));have⟨b1,bg,bl⟩:=dt hu;have hud:=bg.aJ.drew;have⟨k1,k2⟩:=h.same hud .keep;have hlb:=a.lb;have hl0:0<=x.last:=by have:=a.tl;omega
 have E:=OM k1.s.at' text k n (by unfold maxLen;omega) (by omega);rw[hR,hW,hL]at E;have⟨x1,hx1⟩:=aD (x.Zt (x.who.set (cK x.who) (x.last+1)) (x.last+1));have⟨N,hN⟩:=aD ((aZ c).toNat);have hN6:N<=6:=by have:=cW c;omega
 have hN1:1<=N:=by
  have:aZ c=(c.cuts.length:Int)+1:=by unfold aZ;rw[aI a.may]
  omega
 have⟨F,hF⟩:= @aD (Nat->List Int) (λj=>(List.range j).map λs:Nat=>rj c s text k);have⟨MO,TI,I1⟩:=aX (show F 0=[]by rw[hF];rfl) (show∀j,F (j+1)=F j++ [rj c j text k]fromλj=>by rw[hF];simp[List.range_succ]) (show∀j,(F j).length=j fromλj=>by rw[hF];simp);have HA:=au (show∀y,eB y m.sp m.sa m.sb (x.who.set (cK x.who) (x.last+1)) (x.last+1)/\aQ [m.sp,m.sa,m.sb] u.drew y->∃U,cJ c U y m x1/\Fr dB τ U w y fromλy ⟨q1,V⟩=>by
  have⟨p1,p2⟩:=k1.Zt q1 V .keep;exact⟨_,hx1▸p1,k2.trans p2⟩)
 have HSB:=au E;have hc:=(h.fu bg.aJ).cells;have c15:=hc.c15;have pl:=hc.lt;have⟨d0,d1,d2⟩:=oN b1;have K0:=au (show u.drew.cell? ⟨m.cb,15,none⟩=m.sp/\u.drew.cell? w.heap.size=some (aA text)/\u.drew.cell? ⟨w,1,none⟩=k/\u.drew.cell? ⟨w,2,none⟩=n from⟨c15,d0,d1,d2⟩);have hsl:∀q∈[m.sp,m.sa,m.sb],q<w:=by
  intro q O;simp only[bQ,ez,or_false]at O;obtain rfl|rfl|rfl:=O
  .exact az h.s.at'.1
  .exact h.s.at'.2.1.lt
  .exact h.s.at'.2.2.1.lt
 have hst:∀q∈[m.sp,m.sa,m.sb],τ q=.slot:=by
  intro q O;simp only[bQ,ez,or_false]at O;obtain rfl|rfl|rfl:=O
  .exact h.s.tp
  .exact h.s.ta
  .exact h.s.tb
 have HK:=au (show∀y,aQ [m.sp,m.sa,m.sb] u.drew y->y.cell? ⟨m.cb,15,none⟩=m.sp/\y.cell? w.heap.size=some (aA text)/\y.cell? ⟨w,1,none⟩=k/\y.cell? ⟨w,2,none⟩=n fromλy hy=>by
  have A:=hy.block w bl (λe=>by have:=hsl _ e;omega);have hcb:=hy.block m.cb pl (λe=>by have:=hst _ e;rw[h.t]at this;cases this);exact⟨(cU hcb).trans c15,(cU A).trans d0,(cU A).trans d1,(cU A).trans d2⟩)
 have⟨HQB,HU,H,b,W,HN⟩:=eC (show∀y,aQ [m.sp,m.sa,m.sb] u.drew y->y.heap[w.heap.size]? =some (aB #[aA text,k,n] 31 (0,0))fromλy hy=>(hy.block w bl (λe=>by have:=hsl _ e;omega)).trans b1) hu h a hx1 hN;have HF:=au hF;have⟨Q,hQ⟩:=aD (SbP c m.cb (dq c x text k n) τ w);rw[<-hQ];have⟨HQ,H3,HFU⟩:=aX hQ h3 (show cK x.who<x.who.length by have h4:=tP x.who;have h5:cK x.who≠x.who.length:=λe=>C ((tN a.sl).2 e);omega);have⟨qb,hqb⟩:=aD w.heap.size;have Z:=au hqb;rw[<-hqb]at HK HQB K0 d0 d1 d2 bl;have wl:IntKind.i64.wrap (x.last+1)=x.last+1:=IntWalk.i64_in _ (by omega);clear hqb hQ h a hx1 hN hF k1 k2 hc bg b1 hu hud E hR hW hL hsl hst hlb h3 C;go_in;go_upto_region 3 with fail
 rw[<-HU.o,<-Z.o];go_region_held3 (λw'=>w'.cell? ⟨m.cb,15,none⟩=m.sp/\w'.cell? qb=some (aA text)/\w'.cell? ⟨qb,1,none⟩=k/\w'.cell? ⟨qb,2,none⟩=n) (first|(with_reducible exact K0.o)|(with_reducible exact K1.o)) (first
  |(go_at_call 91;refine HSB.m ?_;rintro e y1 ⟨rfl,q1,V⟩;have K1:=au (HK.o y1 V);have Q1:=au (And.intro q1 V);clear q1 V))
 have⟨U,g1,f1⟩:=HA.o y1 Q1.o;have agc:=HQB.o y1 Q1.o.2;have hc1:=g1.cells;have e12:=hc1.c12;have cl1:=hc1.lt;have hcl:=g1.copies;have⟨pa,UO,hpv,pl1,Yn⟩:=g1.p.s.len;rw[hpv,hcl,<-HN.o]at e12;rw[hcl,<-HN.o]at pl1 Yn;unfold maxLen at Yn;have⟨G1,F1,G⟩:=aX g1 f1 agc;have HPU:=au (show∀j wr,j<N->ai y1 y1 wr->aj prog 92 #[m.cb,an ar (j:Int),aG #[aA text,k,n]] wr λe w'=>e=ax (rj c j text k:Int)/\ai wr wr w' fromλj wr hj A=>UU (G1.o.fu A) b.o.may (by rw[<-HN.o];exact hj) text k n ht);clear g1 f1 agc hc1 hcl hpv d0 d1 d2 c15 pl bl;have HLT:=au cl1;have⟨id,hid⟩:=aD (x.last+1);have f:=au hid;rw[<-hid]at wl;have Mg:=au (show∀e y7,(∃X yq,X=qI c x text k n/\yq=lD c id (cK x.who) text k n/\pS c m.cb (eG c X yq) τ w e y7)->∃v,e=ax v/\Q (ax (aM #[an ar 3,an ar id,v])) y7 fromλe y7 ⟨X,yq,e1,e2,v,q1,V,q3⟩=>by
  refine⟨v,q1,?_⟩;rw[HQ.o,iJ H3.o];rw[e1,e2,f.o]at V q3;rw[f.o];exact⟨v,rfl,V,q3⟩)
 rw[<-hid];clear hid;go_wp2_with fail
 go_loopw [10,36] (λv i wr=>∃j:Nat,i=an ar j/\j<=N/\fU y1 wr v (F j)/\ai y1 y1 wr) (λ_ i _=>N-(intOf i).toNat)
 case atStart=>exact⟨0,rfl,bz _,by rw[MO.o];exact Own.nil _ _ _ _,aO _ _⟩
 case round=>
  obtain⟨j,rfl,hj,hi,A⟩:=hrel;have hqw:=(ch A).at G.o (by simp);have⟨d0,d1,d2⟩:=oN hqw;by_cases hlt:j<N
  .have HLC:=au (HPU.o j wr hlt A)
   have q1:(0:Int)<=(j:Int):=by omega
   have V:(j:Int)<(N:Int):=by omega
   have⟨HI,Y⟩:=aK hi A;clear hi A hqw;go_wp2_with fail
   refine HLC.m ?_;rintro e y2 ⟨rfl,hy2⟩;have hby:=Y.o.trans (hy2.mono Y.o.size);have⟨pa2,pk,w2,I,hl2,hb2⟩:=fU.push (Own.below HI.o hy2) (rj c j text k) (by rw[I1.o];omega) hby.size;rw[<-TI.o]at hl2;have⟨g,HL2,HB2⟩:=aX I hl2 (hby.trans hb2);generalize rj c j text k=lq at*;clear I hl2 hb2 hby hy2 d0 d1 d2;go_wp2_with (refine cE (by rfl) (.tmp 39) (.tmp 44) 43 (by rfl) _ _ _ w2 (by rfl) (by rfl) (g.o _) ?_);go_roundw
   case rel=>exact⟨j+1,by simp,by omega,HL2.o,HB2.o⟩
   case measure=>simp[intOf];omega
  .obtain rfl:j=N:=by omega
   have a:Eg (F j) n=true:=by
    unfold Eg;rw[I1.o];simp only[cV,ei];omega
   have⟨HMN,Y,aky⟩:=aX (T5 hi.reads n a) A a;clear hi A hqw a;go_wp2_with fail
   refine HMN.m ?_;rintro e y3 ⟨rfl,hnew⟩;have⟨gs,sv,hmg,hown,J⟩:=hnew.mg (aP _) aky.o;have age:=(ch (Y.o.trans (J.mono Y.o.size))).at G.o (by simp);have⟨d0,d1,d2⟩:=oN age;have⟨y4,K⟩:=aD (y3.alloc (aB #[an ar id,an ar (cK x.who:Nat),aA text,k,n,wr.heap.size,an ar 0,an ar 0,an ar 0,aw false,an ar 0,an ar 0,an ar 0,aw false,an ar 0,an ar 0,an ar 0,aw false,an ar 0,an ar 0,an ar 0,aw false,an ar 0,an ar 0,an ar 0,aw false,an ar 0,an ar 0,an ar 0,aw false] 184 (0,0)));have c1w:=G1.o.fu Y.o;have hql:m.qs.length<1000000:=by
    have e1:m.qs.length=x.qs.length:=by rw[<-H.o.qv,cr]
    have e2:=abz b.o;omega
   have agf:ld id:=eN (by have:=f.o;omega) (by have:=f.o;have:=b.o.lb;omega);have⟨T,I,agh,τ5,m5,k5,c5,hk5,ky,kb,l,mdv,mts,f5⟩:=YB c1w hmg hown J id (cK x.who:Nat) text k ht agf (λz hz=>by rw[f.o];exact aby b.o H.o z hz) hql y4 K;have hal:ai y3 y3 y4:=by rw[K];exact(aO _ _).alloc (aP _) _
   have hb4:=J.trans (hal.mono J.size);have c4:=c1w.fu hb4;have e17:=c4.cells.c17;have akB:y3.heap.size<y4.heap.size:=by rw[K];simp
   have c5d:=c5.fu (y:=T.drew) ((aO _ _).drew);obtain⟨v',y6,agi,L,f6,⟨va,vn,vc,rfl⟩,dg,c6⟩:=c5d.ajv ⟨id,text,k,n,[],false,false⟩ rfl (by rw[mts];have e1:m.ts.length=x.told.length:=by{rw[<-H.o.dv,cr]};have:=b.o.tl;have:=b.o.lb;omega);have hcd:=c5d.cells;have M:=hcd.c18;have el5:=hcd.lt;rw[l,mdv]at M;rw[l]at el5 L;have r:y6.heap[m.cb]? =T.heap[m.cb]? :=L;have x18:=(cU r).trans M;have aq1:y6.frozen? ⟨m.cb,18,none⟩=false:=by
    have hbx:=c5.bx;rw[l]at hbx;simp[World.frozen?,r,hbx]
   have agj:T.heap[qb]? =some (aB #[aA text,k,n] 31 (0,0)):=by
    have h4:=(ch (Y.o.trans (hb4.mono Y.o.size))).at G.o (by simp);refine(agh.block qb (az h4) ?_).trans h4;simp only[cm];intro e;have:=H.o.q.m.lt;have:=Z.o;omega
   have⟨s0,s1,s2⟩:=oN agj;have htl:((x.told++ [(⟨id,text,k,n,[],false,false⟩:bZ)]).length:Int)=id:=by
    have:=b.o.tl;have:=f.o;simp;omega
   have hfl:Fr dB (eP τ5 T.drew .told) (eP τ5 T.drew .told) y6 (y6.setCell ⟨m5.cb,18,none⟩ (av va vn vc)):=Fr.fm ((aQ.refl [m5.cb] y6).setCell _ (by simp) _) (by intro q O;rw[List.mem_singleton.1 O];exact .inl c6.t);rw[l]at hfl;have HGO:=au (show aj prog 94 #[m.cb,y3.heap.size] (y6.setCell ⟨m.cb,18,none⟩ (av va vn vc)) λe y7=>∃X yq,X=qI c x text k n/\yq=lD c id (cK x.who) text k n/\pS c m.cb (eG c X yq) τ w e y7 by
    have hg:=Pm (k:=k5) c6 hk5 (by rw[ky];exact⟨by simp,by have h4:=b.o.four;have h5:=HFU.o;simp only;omega⟩) (by rw[ky];exact⟨by have:=f.o;show 1<=id;omega,by show id<=((x1.told++ [(⟨id,text,k,n,[],false,false⟩:bZ)]).length:Int);rw[W.o];show id<=((x.told++ [(⟨id,text,k,n,[],false,false⟩:bZ)]).length:Int);omega⟩)
     (by show(((x1.told++ [(⟨id,text,k,n,[],false,false⟩:bZ)]).length:Nat):Int)<=_;rw[W.o];show(((x.told++ [(⟨id,text,k,n,[],false,false⟩:bZ)]).length:Nat):Int)<=_;have:=f.o;have:=b.o.lb;omega) (by have:=cW c;omega) (by have:=aV.bounds b.o.may;exact⟨this.w1,this.w2⟩)
     (λt ht=>by
      rw[W.o]at ht;obtain h|h:=List.mem_append.1 (show t∈x.told++ [(⟨id,text,k,n,[],false,false⟩:bZ)]from ht)
      .exact hn t h
      .rw[List.mem_singleton.1 h];simp)
    rw[l]at hg;rw[show(m5.UL (av va vn vc) dg (m5.ts++ [⟨⟨id,text,k,n,[],false,false⟩,(),none⟩])).cb=m.cb from l,kb]at hg;refine hg.mono λe y7 ho=>⟨_,k5.y,?_,?_,pS.from ho ?_⟩
    .rw[W.o,f.o]
     unfold qI;have:lD c (x.last+1) (cK x.who) text k n=⟨x.last+1,(cK x.who:Nat),text,k,n,(F j).map AX,[],List.replicate 6 ⟨0,0,0,false⟩⟩:=by
      unfold lD;rw[HF.o,fT,<-HN.o];rfl
     rw[this];rfl
    .rw[ky]
     unfold lD;rw[HF.o,fT,<-HN.o];rfl
    .exact F1.o.trans ((Fr.eS Y.o dB U).trans (f5.trans ((Fr.eS ((aO T T).drew) dB τ5).trans (f6.trans hfl))))
   )
   have g:=au agi;rw[mdv]at g;have Nx:=au K;have⟨da,YJ,hdv,dl1,dl2⟩:=H.o.d.s.len;rw[hdv]at g M x18;generalize hFS:(cK x.who:Nat)=fs at*;have akD:T.cell? ⟨m.cb,18,none⟩=some (av da m.ts.length YJ):=M;clear hmg hown age hal hb4 c4 c5 c5d c6 hcd f5 f6 hfl agh hk5 ky kb l mdv mts agj L r hql agf c1w J hnew K htl hdv agi M hFS akB;go_upto_region 14 with fail
   rw[<-Nx.o];have aq3:=λo=>((aO T T).alloc (aP _) o).cell (p:=⟨m.cb,18,none⟩) el5|>.trans akD
   go_upto_region 15 with fail
   go_region_law (first
    |(refine iU (by rfl) (.tmp 70) (.tmp 74) 35 (by rfl) _ _ _ y6 (by rfl) (by rfl) (g.o _) ?_)
    |fail)
   all_goals
    have HG:=HGO;go_wp2_with fail
    refine HG.m ?_;intro e y7 hr;obtain⟨v,rfl,O⟩:=Mg.o e y7 hr;have HE:=au O;clear hr O;go_wp2;go_ret3;exact HE.o
def RO{m:jG}{x:cB}{B:Int}(h:cJ c τ w m x)(a:cI c B x)(e:B<=900000)(text:ByteArray)(k n:Int)(b:text.size<=1000)(f:∀t∈x.told,t.items.length<=100000):
 aj prog 63 #[m.cb,aG #[aA text,k,n]] w (SbP c m.cb (dq c x text k n) τ w):=by
 by_cases d:(jD (ie text k n) x.who x.last).1=3
 .exact NL h a e text k n b f d
 .exact RN h a (by omega) text k n b d
variable{r:cS}
def NM{i:ae}(h:dN c xb rb np rs () [] E τ i (x,r) w)(nd at' g:Int)(tx:ByteArray)(b d:Int){B:Int}(j:cI c B x.co)(T:B<=900000)(U:tx.size<=1000)(l:∀t∈x.co.told,t.items.length<=100000)(V:(dq c x.co tx b d).2.2.length<=1000)(p:x.next<=10000000)(A:r.sent.length<=1000)(C:r.lost.length<=1000):
 aj prog 47 #[xb,rb,aG #[an ar 1,nd,at',g,aA tx,b,d]] w λe w'=>e=ax (aM #[])/\dN c xb rb np rs () [] E τ i (cM c x r ⟨1,nd,at',g,tx,b,d⟩) w':=by
 have⟨u,G⟩:=aD (w.alloc (aB #[an ar 1,nd,at',g,aA tx,b,d] 33 (0,0)));have⟨b1,bg,el⟩:=dt G;have hi:=h.box _ G;have⟨eb,f⟩:=aD w.heap.size;have⟨W,F⟩:=aD (Obj.cells #[an ar 1,nd,at',g,aA tx,b,d] 33 (0,0));rw[<-f]at b1 el hi;rw[<-F]at hi;have d0:=aF b1 0 rfl;have d4:=aF b1 4 rfl;have d5:=aF b1 5 rfl;have d6:=aF b1 6 rfl;have⟨HU,I⟩:=aK G f;have⟨cx2,xl,rl,_⟩:=hi.cells;have hid:=hi.below ((aO u u).drew);obtain⟨cb,c0,m0,τ0,rfl,X,Y,_⟩:=hid.coP;have⟨S,H⟩:=aD (dq c x.co tx b d);have HC:=au (show aj prog 63 #[m0.cb,aG #[aA tx,b,d]] u.drew λe y=>∃v,e=ax (aM #[an ar S.2.1.1,an ar S.2.1.2,v])/\(∃a n k,v=av a n k)/\dN c xb rb np rs v S.2.2 ((eb,W)::E) τ i ({x with co:=S.1},r) y by
  refine(RO X j T tx b d U l).mono ?_;rintro e y ⟨v,rfl,l1,l2⟩;rw[<-H]at l1 l2⊢;have:=Y y _ v _ l2 l1;exact⟨v,rfl,this.shape,this⟩)
 have Z:=au (show cM c x r ⟨1,nd,at',g,tx,b,d⟩=S.2.2.foldl (cF c 0) ({x with co:=S.1},{r with verdict:=S.2.1.1,id:=S.2.1.2})by
  unfold cM dh;rw[aI rfl,H])
 have J:=au (show S.2.2.length<=1000 by rw[H];exact V);have⟨q,hq⟩:=aD (cM c x r ⟨1,nd,at',g,tx,b,d⟩);rw[<-hq]at Z⊢;have⟨K,L,M⟩:=aX p A C;clear j T U l V p A C hid X Y H hq;clear h hi G f F bg b1;go_in;go_upto_region 1 with fail
 rw[<-HU.o,<-I.o];go_upto_region 3 with fail
 go_region_law (first
  |(refine dm (by rfl) 63 func63 (by kernel_rfl) (by kernel_rfl) (by rfl) _ (by kernel_rfl) HC.o ?_;rintro e y1 ⟨_,rfl,⟨va,vn,vc,rfl⟩,hs⟩;refine⟨_,rfl,?_⟩;have HS:=au hs;clear hs)
  |fail)
 all_goals
  have⟨⟨o7,e7⟩,⟨o8,e8⟩,f7,f8,N⟩:=HS.o.judge S.2.1.1 S.2.1.2;have⟨_,_,Wo,_⟩:=HS.o.cells;have⟨z,O⟩:=aD ((y1.setCell ⟨rb,7,none⟩ (S.2.1.1:Int)).setCell ⟨rb,8,none⟩ (S.2.1.2:Int));rw[<-O]at N;have Q:=au (rU N 0 (by have:=J.o;have:=K.o;show x.next+_<=_;omega) (by have:=J.o;have:=L.o;show r.sent.length+_<=_;omega) (by have:=J.o;have:=M.o;show r.lost.length+_<=_;omega));have HF:=au (show∀y,dN c xb rb np rs (av va vn vc) S.2.2 ((eb,W)::E) τ i (S.2.2.foldl (cF c 0) ({x with co:=S.1},{r with verdict:=S.2.1.1,id:=S.2.1.2})) y->dN c xb rb np rs () [] E τ i q y fromλy hy=>by
   rw[Z.o];exact hy.mute.less (λ_ hp=>du _ hp))
  have HZ:=au O;clear N O;go_upto_region 5 with fail
  rw[<-HZ.o];go_wp2_with fail
  refine Q.m ?_;rintro e y2 ⟨rfl,hs⟩;have HE:=au (HF.o y2 hs);clear hs;go_wp2
  go_end0
  exact⟨rfl,HE.o⟩
def NN{i:ae}(h:dN c xb rb np rs () [] E τ i (x,r) w)(nd at' d:Int)(tx:ByteArray)(f g:Int){B:Int}(j:cI c B x.co)(L:B<=1000000000)(M:ld at')(N:(cX c x.co at').2.length<=1000)(l:x.next<=10000000)(p:r.sent.length<=1000)(t:r.lost.length<=1000):
 aj prog 47 #[xb,rb,aG #[an ar 2,nd,at',d,aA tx,f,g]] w λe w'=>e=ax (aM #[])/\dN c xb rb np rs () [] E τ i (cM c x r ⟨2,nd,at',d,tx,f,g⟩) w':=by
 have⟨u,A⟩:=aD (w.alloc (aB #[an ar 2,nd,at',d,aA tx,f,g] 33 (0,0)));have⟨b1,W,el⟩:=dt A;have hi:=h.box _ A;have⟨eb,b⟩:=aD w.heap.size;have⟨O,z⟩:=aD (Obj.cells #[an ar 2,nd,at',d,aA tx,f,g] 33 (0,0));rw[<-b]at b1 el hi;rw[<-z]at hi;have d0:=aF b1 0 rfl;have d2:=aF b1 2 rfl;have⟨X,F⟩:=aK A b;have⟨Y,xl,rl,_⟩:=hi.cells;have hid:=hi.below ((aO u u).drew);obtain⟨cb,c0,Z,τ0,rfl,Q,T,_⟩:=hid.coP;have⟨S,C⟩:=aD (cX c x.co at');have HC:=au (show aj prog 65 #[Z.cb,at'] u.drew λe y=>∃v n,e=ax (aM #[v,an ar n])/\(∃a n k,v=av a n k)/\dN c xb rb np rs v S.2 ((eb,O)::E) τ i ({x with co:=S.1},r) y by
  refine(X8 Q j L at' M).mono ?_;rintro e y ⟨v,n,rfl,l1,l2⟩;rw[<-C]at l1 l2;have:=T y _ v _ l2 l1;exact⟨v,n,rfl,this.shape,this⟩)
 have U:=au (show cM c x r ⟨2,nd,at',d,tx,f,g⟩=S.2.foldl (cF c 0) ({x with co:=S.1},r)by
  unfold cM dh;rw[aC (by simp),aI rfl,C])
 have G:=au (show S.2.length<=1000 by rw[C];exact N);have⟨q,V⟩:=aD (cM c x r ⟨2,nd,at',d,tx,f,g⟩);rw[<-V]at U⊢;have⟨H,I,J⟩:=aX l p t;clear j L M N l p t hid Q T C V;clear h hi A b z W b1;go_in;go_upto_region 1 with fail
 rw[<-X.o,<-F.o];go_upto_region 7 with fail
 go_region_law (first
  |(refine dm (by rfl) 65 func65 (by kernel_rfl) (by kernel_rfl) (by rfl) _ (by kernel_rfl) HC.o ?_;rintro e y1 ⟨_,n,rfl,⟨va,vn,vc,rfl⟩,hs⟩;refine⟨_,rfl,?_⟩;have HS:=au hs;clear hs)
  |fail)
 all_goals
  have K:=au (rU HS.o 0 (by have:=G.o;have:=H.o;show x.next+_<=_;omega) (by have:=G.o;have:=I.o;show r.sent.length+_<=_;omega) (by have:=G.o;have:=J.o;show r.lost.length+_<=_;omega));have HF:=au (show∀y,dN c xb rb np rs (av va vn vc) S.2 ((eb,O)::E) τ i (S.2.foldl (cF c 0) ({x with co:=S.1},r)) y->dN c xb rb np rs () [] E τ i q y fromλy hy=>by
   rw[U.o];exact hy.mute.less (λ_ hp=>du _ hp))
  go_wp2_with fail
  refine K.m ?_;rintro e y2 ⟨rfl,hs⟩;have HE:=au (HF.o y2 hs);clear hs;go_wp2
  go_end0
  exact⟨rfl,HE.o⟩
def VB{p:ae}(h:dN c xb rb np rs () [] E τ p (x,r) w)(nd a f:Int)(g:ByteArray)(i j:Int){B:Int}(b:cI c B x.co):
 aj prog 47 #[xb,rb,aG #[an ar 3,nd,a,f,aA g,i,j]] w λe w'=>e=ax (aM #[])/\dN c xb rb np rs () [] E τ p (cM c x r ⟨3,nd,a,f,g,i,j⟩) w':=by
 have⟨u,n⟩:=aD (w.alloc (aB #[an ar 3,nd,a,f,aA g,i,j] 33 (0,0)));have⟨t,I,J⟩:=dt n;have k:=h.box _ n;have⟨U,d⟩:=aD w.heap.size;have⟨V,l⟩:=aD (Obj.cells #[an ar 3,nd,a,f,aA g,i,j] 33 (0,0));rw[<-d]at t J k;rw[<-l]at k;have W:=aF t 0 rfl;have⟨K,z⟩:=aK n d;have⟨L,X,Y,_⟩:=k.cells;have⟨C,A,F,Z,G⟩:=k.co;have M:=au (show aj prog 66 #[C.cb] u λe y=>e=ax (aM #[])/\dN c xb rb np rs () [] E τ p (cM c x r ⟨3,nd,a,f,g,i,j⟩) y by
  refine(ae8 F b.n0 b.n1).mono ?_;rintro e y ⟨rfl,N,O⟩;refine⟨rfl,?_⟩;unfold cM;rw[aC (by simp),aC (by simp),aI rfl];exact(G y _ A C _ _ N rfl O (gK.nil _ _)).less (λ_ Q=>du _ Q))
 generalize cM c x r ⟨3,nd,a,f,g,i,j⟩=q at*;clear b F G;clear h k n d l I t;go_in;go_upto_region 1 with fail
 rw[<-K.o,<-z.o];go_wp2_with fail
 refine M.m ?_;rintro e y1 ⟨rfl,H⟩;have T:=au H;clear H;go_wp2
 go_end0
 exact⟨rfl,T.o⟩
def VC{m:ae}(h:dN c xb rb np rs () [] E τ m (x,r) w)(kd nd a d:Int)(f:ByteArray)(g i:Int)(t:¬(1<=kd/\kd<=12)):
 aj prog 47 #[xb,rb,aG #[kd,nd,a,d,aA f,g,i]] w λe w'=>e=ax (aM #[])/\dN c xb rb np rs () [] E τ m (cM c x r ⟨kd,nd,a,d,f,g,i⟩) w':=by
 have⟨u,l⟩:=aD (w.alloc (aB #[kd,nd,a,d,aA f,g,i] 33 (0,0)));have⟨n,z,A⟩:=dt l;have j:=h.box _ l;have⟨K,b⟩:=aD w.heap.size;have⟨L,k⟩:=aD (Obj.cells #[kd,nd,a,d,aA f,g,i] 33 (0,0));rw[<-b]at n A j;rw[<-k]at j;have M:=aF n 0 rfl;have⟨B,p⟩:=aK l b;have⟨C,N,O,_⟩:=j.cells;have F:=au (show dN c xb rb np rs () [] E τ m (cM c x r ⟨kd,nd,a,d,f,g,i⟩) u by
  unfold cM;simp only;rw[aC (by omega),aC (by omega),aC (by omega),aC (by omega),aC (by omega),aC (by omega),aC (by omega),aC (by omega),aC (by omega),aC (by omega),aC (by omega)];exact j.less (λ_ G=>du _ G))
 generalize cM c x r ⟨kd,nd,a,d,f,g,i⟩=q at*;have Q:(kd==1)=false:=by simp;omega
 have T:(kd==2)=false:=by simp;omega
 have U:(kd==3)=false:=by simp;omega
 have V:(kd==4)=false:=by simp;omega
 have W:(kd==5)=false:=by simp;omega
 have X:(kd==6)=false:=by simp;omega
 have Y:(kd==7)=false:=by simp;omega
 have Z:(kd==8)=false:=by simp;omega
 have g9:(kd==9)=false:=by simp;omega
 have H:(kd==10)=false:=by simp;omega
 have I:(kd==11)=false:=by simp;omega
 have J:(kd==12)=false:=by simp;omega
 clear t;clear h j l b k z n;go_in;go_upto_region 1 with fail
 rw[<-B.o,<-p.o];go_wp2
 go_end0
 exact⟨rfl,F.o⟩
def KM{J:ae}(h:dN c xb rb np rs () [] E τ J (x,r) w)(nd a d:Int)(f:ByteArray)(i j:Int){B:Int}(K:∀g∈x.net,cQ g.fr/\0<=g.tO/\g.tO<=x.ws.length)(k:cI c B x.co)(L:B<=1000000000)(l:∀t∈x.co.told,t.items.length<=100000)(M:∀m,m.may=true->(dU c x.co m).2.length<=1000)(n:x.next<=10000000)(p:r.sent.length<=1000)(z:r.lost.length<=1000):
 aj prog 47 #[xb,rb,aG #[an ar 5,nd,a,d,aA f,i,j]] w λe w'=>e=ax (aM #[])/\dN c xb rb np rs () [] E τ J (cM c x r ⟨5,nd,a,d,f,i,j⟩) w':=by
 have⟨u,G⟩:=aD (w.alloc (aB #[an ar 5,nd,a,d,aA f,i,j] 33 (0,0)));have⟨H,O,Q⟩:=dt G;have A:=h.box _ G;have⟨Z,b⟩:=aD w.heap.size;have⟨EB,C⟩:=aD (Obj.cells #[an ar 5,nd,a,d,aA f,i,j] 33 (0,0));rw[<-b]at H Q A;rw[<-C]at A;have d0:=aF H 0 rfl;have d2:=aF H 2 rfl;have⟨T,I⟩:=aK G b;have⟨U,xl,rl,_⟩:=A.cells;have F:=A.less (E':=E) (λ_ V=>du _ V);have W:=au (NJ F a K k L l M n p z);have X:=au (show cM c x r ⟨5,nd,a,d,f,i,j⟩=eE c x r a by
  unfold cM;rw[aC (by simp),aC (by simp),aC (by simp),aC (by simp),aI rfl])
 rw[X.o];generalize eE c x r a=q at*;clear F K k L l M n p z;clear h A G b C O H;go_in;go_upto_region 1 with fail
 rw[<-T.o,<-I.o];go_wp2_with fail
 refine W.m ?_;rintro e y1 ⟨rfl,N⟩;have Y:=au N;clear N;go_wp2
 go_end0
 exact⟨rfl,Y.o⟩
def VD{k:ae}(h:dN c xb rb np rs () [] E τ k (x,r) w)(nd at' g:Int)(tx:ByteArray)(i j:Int)(l:r.lost.length<=1000):
 aj prog 47 #[xb,rb,aG #[an ar 6,nd,at',g,aA tx,i,j]] w λe w'=>e=ax (aM #[])/\dN c xb rb np rs () [] E τ k (cM c x r ⟨6,nd,at',g,tx,i,j⟩) w':=by
 have⟨u,B⟩:=aD (w.alloc (aB #[an ar 6,nd,at',g,aA tx,i,j] 33 (0,0)));have⟨b1,V,el⟩:=dt B;have hi:=h.box _ B;have⟨eb,a⟩:=aD w.heap.size;have⟨W,m⟩:=aD (Obj.cells #[an ar 6,nd,at',g,aA tx,i,j] 33 (0,0));rw[<-a]at b1 el hi;rw[<-m]at hi;have d0:=aF b1 0 rfl;have d2:=aF b1 2 rfl;have⟨X,G⟩:=aK B a;have⟨Y,xl,rl,_⟩:=hi.cells;have hid:=hi.below ((aO u u).drew);have⟨F,n1,n2⟩:=hid.nt;have⟨H,b⟩:=aD ((ij x.net at').id);have⟨ok,d⟩:=aD (qm x.net.length at');have⟨I,f⟩:= @aD di ({x with net:=gG x.net at'});have Z:=au (show aj prog 68 #[np,at'] u.drew λe y=>e=ax (aM #[an ar H,aw ok])/\dN c xb rb np rs () [] ((eb,W)::E) τ k (I,r) y by
  refine(adm n1 at').mono ?_;rintro e y ⟨rfl,l1,l2,J⟩;rw[b,d,f];exact⟨rfl,n2 y _ l1 l2 J⟩)
 have K:=au (show cM c x r ⟨6,nd,at',g,tx,i,j⟩=if ok then(I,{r with lost:=r.lost++ [H]})else(I,r)by
  unfold cM;rw[aC (by simp),aC (by simp),aC (by simp),aC (by simp),aC (by simp),aI rfl,d,b,f];simp only;split
  .rfl
  .rename_i hh
   unfold gG;rw[aC hh])
 have⟨q,Q⟩:=aD (cM c x r ⟨6,nd,at',g,tx,i,j⟩);rw[<-Q]at K⊢;have L:=au l;clear hid n1 n2 b d f l Q;clear h hi B a m V b1;go_in;go_upto_region 1 with fail
 rw[<-X.o,<-G.o];go_upto_region 17 with fail
 go_region_law (first
  |(refine dm (by rfl) 68 func68 (by kernel_rfl) (by kernel_rfl) (by rfl) _ (by kernel_rfl) Z.o ?_;rintro e n ⟨rfl,hs⟩;refine⟨_,rfl,?_⟩;have T:=au hs;clear hs)
  |fail)
 all_goals
  cases ok
  .have M:=au (show dN c xb rb np rs () [] E τ k q n by rw[K.o,aC (by simp)];exact T.o.less (λ_ N=>du _ N))
   go_wp2
   go_end0
   exact⟨rfl,M.o⟩
  .obtain⟨v1,v1',C,t1,⟨k1,k2,k3,rfl⟩,t3,⟨l1,l2,J,rfl⟩,t5,t6,U⟩:=T.o.lost H (by have:=L.o;show r.lost.length<=1000000;omega)
   have t:=t1;have O:rb<n:=iV n _ t;have t1a:=λo=>(((aO n n).alloc (aP _) o).cell (p:=⟨rb,11,none⟩) O).trans t
   have rb2:rb<C:=iV C _ t5;have z:=au t3;have M:=au (show dN c xb rb np rs () [] E τ k q (C.setCell ⟨rb,11,none⟩ (av l1 l2 J))by
    have A:=K.o;simp only[if_true]at A;rw[A];exact U.less (λ_ N=>du _ N))
   clear t1 t3 U;go_wp2_with (refine cE (by rfl) (.tmp 118) (.tmp 120) 43 (by rfl) _ _ _ C (by rfl) (by rfl) (z.o _) ?_)
   go_end0
   exact⟨rfl,M.o⟩
def NO{A:ae}(h:dN c xb rb np rs () [] E τ A (x,r) w)(nd a f:Int)(i:ByteArray)(j k:Int)(l:∀g∈x.net,g.fr.length<=100000):
 aj prog 47 #[xb,rb,aG #[an ar 7,nd,a,f,aA i,j,k]] w λe w'=>e=ax (aM #[])/\dN c xb rb np rs () [] E τ A (cM c x r ⟨7,nd,a,f,i,j,k⟩) w':=by
 have⟨u,t⟩:=aD (w.alloc (aB #[an ar 7,nd,a,f,aA i,j,k] 33 (0,0)));have⟨z,I,J⟩:=dt t;have n:=h.box _ t;have⟨V,d⟩:=aD w.heap.size;have⟨W,p⟩:=aD (Obj.cells #[an ar 7,nd,a,f,aA i,j,k] 33 (0,0));rw[<-d]at z J n;rw[<-p]at n;have X:=aF z 0 rfl;have Y:=aF z 2 rfl;have⟨K,B⟩:=aK t d;have⟨L,Z,rl,_⟩:=n.cells;have hid:=n.below ((aO u u).drew);have⟨F,C,G⟩:=hid.nt;have M:=au (show aj prog 69 #[np,a] u.drew λe y=>∃b:Bool,e=ax (aw b)/\dN c xb rb np rs () [] E τ A (cM c x r ⟨7,nd,a,f,i,j,k⟩) y by
  refine(W2 C l a).mono ?_;rintro e y ⟨rfl,N,O,Q⟩;refine⟨_,rfl,?_⟩;unfold cM FY;rw[aC (by simp),aC (by simp),aC (by simp),aC (by simp),aC (by simp),aC (by simp),aI rfl];exact(G y _ N O Q).less (λ_ T=>du _ T))
 generalize cM c x r ⟨7,nd,a,f,i,j,k⟩=q at*;clear hid C G l;clear h n t d p I z;go_in;go_upto_region 1 with fail
 rw[<-K.o,<-B.o];go_upto_region 21 with fail
 go_still_tail 6,(by kernel_rfl)
 go_wp2_with fail
 refine M.m ?_;rintro e y1 ⟨bb,rfl,H⟩;have U:=au H;clear H;go_wp2
 go_end0
 exact⟨rfl,U.o⟩
def RP{t:ae}(h:dN c xb rb np rs () [] E τ t (x,r) w)(nd a d:Int)(g:ByteArray)(i j:Int):
 aj prog 47 #[xb,rb,aG #[an ar 8,nd,a,d,aA g,i,j]] w λe w'=>e=ax (aM #[])/\dN c xb rb np rs () [] E τ t (cM c x r ⟨8,nd,a,d,g,i,j⟩) w':=by
 have⟨u,n⟩:=aD (w.alloc (aB #[an ar 8,nd,a,d,aA g,i,j] 33 (0,0)));have⟨p,G,H⟩:=dt n;have k:=h.box _ n;have⟨T,f⟩:=aD w.heap.size;have⟨U,l⟩:=aD (Obj.cells #[an ar 8,nd,a,d,aA g,i,j] 33 (0,0));rw[<-f]at p H k;rw[<-l]at k;have⟨V,W,X⟩:=oN p;have Y:=aF p 3 rfl;have⟨I,z⟩:=aK n f;have⟨J,Z,rl,_⟩:=k.cells;have hid:=k.below ((aO u u).drew);have⟨F,A,B⟩:=hid.nt;have K:=au (show aj prog 70 #[np,a,nd,d] u.drew λe y=>∃b:Bool,e=ax (aw b)/\dN c xb rb np rs () [] E τ t (cM c x r ⟨8,nd,a,d,g,i,j⟩) y by
  refine(aac A a nd d).mono ?_;rintro e y ⟨rfl,L,M,N⟩;refine⟨_,rfl,?_⟩;unfold cM;rw[aC (by simp),aC (by simp),aC (by simp),aC (by simp),aC (by simp),aC (by simp),aC (by simp),aI rfl];exact(B y _ L M N).less (λ_ O=>du _ O))
 generalize cM c x r ⟨8,nd,a,d,g,i,j⟩=q at*;clear hid A B;clear h k n f l G p;go_in;go_upto_region 1 with fail
 rw[<-I.o,<-z.o];go_upto_region 23 with fail
 go_still_tail 10,(by kernel_rfl)
 go_wp2_with fail
 refine K.m ?_;rintro e y1 ⟨bb,rfl,C⟩;have Q:=au C;clear C;go_wp2
 go_end0
 exact⟨rfl,Q.o⟩
def RQ{F:ae}{x:di}{r:cS}(h:dN c xb rb np rs () [] E τ F (x,r) w)(nd at' i:Int)(tx:ByteArray)(j l:Int):
 aj prog 47 #[xb,rb,aG #[an ar 9,(nd:Int),at',i,aA tx,j,l]] w λe w'=>e=ax (aM #[])/\dN c xb rb np rs () [] E τ F (cM c x r ⟨9,nd,at',i,tx,j,l⟩) w':=by
 have⟨u,p⟩:=aD (w.alloc (aB #[an ar 9,(nd:Int),at',i,aA tx,j,l] 33 (0,0)));have⟨b1,K,el⟩:=dt p;have hi:=h.box _ p;have⟨eb,a⟩:=aD w.heap.size;have⟨EB,b⟩:=aD (Obj.cells #[an ar 9,(nd:Int),at',i,aA tx,j,l] 33 (0,0));rw[<-a]at b1 el hi;rw[<-b]at hi;have⟨d0,d1⟩:=dk b1;have⟨L,t,U,V⟩:=c_ p a b hi;have⟨W,xl,rl,_⟩:=hi.cells;have d:∀k,k<x.ws.length->nd=((k+1:Nat):Int)->cM c x r ⟨9,nd,at',i,tx,j,l⟩=({x with ws:=x.ws.set k (eL (x.ws.getD k ()))},r):=λk A e=>by
  unfold cM di.upd;rw[aC (by simp),aC (by simp),aC (by simp),aC (by simp),aC (by simp),aC (by simp),aC (by simp),aC (by simp),aI rfl];simp only;rw[e,di.vO A];unfold di.set;simp
 have f:¬(1<=nd/\nd<=x.ws.length)->cM c x r ⟨9,nd,at',i,tx,j,l⟩=(x,r):=λe=>by
  unfold cM di.upd di.wk;rw[aC (by simp),aC (by simp),aC (by simp),aC (by simp),aC (by simp),aC (by simp),aC (by simp),aC (by simp),aI rfl];simp only;rw[aC e]
 by_cases C:1<=nd/\nd<=x.ws.length
 .obtain⟨k,rfl⟩:∃k:Nat,nd=((k+1:Nat):Int):=⟨nd.toNat-1,by omega⟩
  have A:k<x.ws.length:=by omega
  have⟨M,B,N,O,_,Q⟩:=hi.wo A;rw[d k A rfl];have X:=au (show∀y,ai u u y->aj prog 71 #[M.bx] y λe z=>∃n,e=ax (an ar n)/\dN c xb rb np rs () [] E τ F ({x with ws:=x.ws.set k (eL (x.ws.getD k ()))},r) z fromλy g=>by
   have T:Fr (λ_=>False) B (eP B u .tmp) u y:=Fr.of_below g _ _ _;refine(abD (N.fr T (λ_ _ h=>h) (λh=>h))).mono ?_;rintro e z ⟨n,rfl,G,m2,j1,j2,Y⟩;exact⟨n,rfl,(Q z _ G m2 _ _ j1 j2 ((T.mono (λ_ e=>e.elim)).trans Y) (gK.nil _ _)).less (λ_ H=>du _ H)⟩)
  have I:=au O;generalize({x with ws:=x.ws.set k (eL (x.ws.getD k ()))},r)=q at*;generalize((k+1:Nat):Int)=nd at*;generalize M.bx=bx at*;clear d f C A N O Q;clear h hi p a b K b1;go_in;go_upto_region 1 with fail
  rw[<-L.o,<-t.o];go_wp2_with fail
  refine I.m ?_;rintro e J ⟨rfl,g⟩;have Z:=au (X.o J g);clear g;go_wp2_with fail
  refine Z.m ?_;rintro e y2 ⟨n,rfl,hs⟩;have HS:=au hs;clear hs;go_wp2
  go_end0
  exact⟨rfl,HS.o⟩
 .have I:=au (hi.zN nd C)
  rw[f C];clear d f C;clear h hi p a b K b1;go_in;go_upto_region 1 with fail
  rw[<-L.o,<-t.o];go_wp2_with fail
  refine I.m ?_;rintro e J ⟨rfl,g⟩;have⟨HE,HN⟩:=aK ((V.o.below g).less (E':=E) (λ_ H=>du _ H)) (Vx J);clear g;go_wp2_with fail
  refine HN.m ?_;rintro e y2 ⟨n,rfl,rfl⟩;go_wp2
  go_end0
  exact⟨rfl,HE.o⟩
def KN{F:ae}{x:di}{r:cS}(h:dN c xb rb np rs () [] E τ F (x,r) w)(nd at' i:Int)(tx:ByteArray)(j l:Int)(hl:∀k,k<x.ws.length->(x.ws.getD k ()).life<1000000000):
 aj prog 47 #[xb,rb,aG #[an ar 10,(nd:Int),at',i,aA tx,j,l]] w λe w'=>e=ax (aM #[])/\dN c xb rb np rs () [] E τ F (cM c x r ⟨10,nd,at',i,tx,j,l⟩) w':=by
 have⟨u,t⟩:=aD (w.alloc (aB #[an ar 10,(nd:Int),at',i,aA tx,j,l] 33 (0,0)));have⟨b1,K,el⟩:=dt t;have hi:=h.box _ t;have⟨eb,a⟩:=aD w.heap.size;have⟨EB,b⟩:=aD (Obj.cells #[an ar 10,(nd:Int),at',i,aA tx,j,l] 33 (0,0));rw[<-a]at b1 el hi;rw[<-b]at hi;have⟨d0,d1⟩:=dk b1;have⟨L,A,U,V⟩:=c_ t a b hi;have⟨W,xl,rl,_⟩:=hi.cells;have d:∀k,k<x.ws.length->nd=((k+1:Nat):Int)->cM c x r ⟨10,nd,at',i,tx,j,l⟩=({x with ws:=x.ws.set k (gV (x.ws.getD k ()))},r):=λk p e=>by
  unfold cM di.upd;rw[aC (by simp),aC (by simp),aC (by simp),aC (by simp),aC (by simp),aC (by simp),aC (by simp),aC (by simp),aC (by simp),aI rfl];simp only;rw[e,di.vO p];unfold di.set;simp
 have f:¬(1<=nd/\nd<=x.ws.length)->cM c x r ⟨10,nd,at',i,tx,j,l⟩=(x,r):=λe=>by
  unfold cM di.upd di.wk;rw[aC (by simp),aC (by simp),aC (by simp),aC (by simp),aC (by simp),aC (by simp),aC (by simp),aC (by simp),aC (by simp),aI rfl];simp only;rw[aC e]
 by_cases C:1<=nd/\nd<=x.ws.length
 .obtain⟨k,rfl⟩:∃k:Nat,nd=((k+1:Nat):Int):=⟨nd.toNat-1,by omega⟩
  have p:k<x.ws.length:=by omega
  have⟨M,B,N,O,_,Q⟩:=hi.wo p;rw[d k p rfl];have X:=au (show∀y,ai u u y->aj prog 72 #[M.bx] y λe z=>∃n,e=ax (an ar n)/\dN c xb rb np rs () [] E τ F ({x with ws:=x.ws.set k (gV (x.ws.getD k ()))},r) z fromλy g=>by
   have T:Fr (λ_=>False) B (eP B u .tmp) u y:=Fr.of_below g _ _ _;refine(Vi (N.fr T (λ_ _ h=>h) (λh=>h)) (hl k p)).mono ?_;rintro e z ⟨n,rfl,G,m2,j1,j2,Y⟩;exact⟨n,rfl,(Q z _ G m2 _ _ j1 j2 ((T.mono (λ_ e=>e.elim)).trans Y) (gK.nil _ _)).less (λ_ H=>du _ H)⟩)
  have I:=au O;generalize({x with ws:=x.ws.set k (gV (x.ws.getD k ()))},r)=q at*;generalize((k+1:Nat):Int)=nd at*;generalize M.bx=bx at*;clear d f C p N O Q;clear h hi t a b K b1;go_in;go_upto_region 1 with fail
  rw[<-L.o,<-A.o];go_wp2_with fail
  refine I.m ?_;rintro e J ⟨rfl,g⟩;have Z:=au (X.o J g);clear g;go_wp2_with fail
  refine Z.m ?_;rintro e y2 ⟨n,rfl,hs⟩;have HS:=au hs;clear hs;go_wp2
  go_end0
  exact⟨rfl,HS.o⟩
 .have I:=au (hi.zN nd C)
  rw[f C];clear d f C;clear h hi t a b K b1;go_in;go_upto_region 1 with fail
  rw[<-L.o,<-A.o];go_wp2_with fail
  refine I.m ?_;rintro e J ⟨rfl,g⟩;have⟨HE,HN⟩:=aK ((V.o.below g).less (E':=E) (λ_ H=>du _ H)) (NK J);clear g;go_wp2_with fail
  refine HN.m ?_;rintro e y2 ⟨n,rfl,rfl⟩;go_wp2
  go_end0
  exact⟨rfl,HE.o⟩
def NP{I:ae}{x:di}{r:cS}(h:dN c xb rb np rs () [] E τ I (x,r) w)(nd at' a:Int)(tx:ByteArray)(b d:Int)(ha:ld at'):
 aj prog 47 #[xb,rb,aG #[an ar 11,(nd:Int),at',a,aA tx,b,d]] w λe w'=>e=ax (aM #[])/\dN c xb rb np rs () [] E τ I (cM c x r ⟨11,nd,at',a,tx,b,d⟩) w':=by
 have⟨u,A⟩:=aD (w.alloc (aB #[an ar 11,(nd:Int),at',a,aA tx,b,d] 33 (0,0)));have⟨b1,U,el⟩:=dt A;have hi:=h.box _ A;have⟨eb,l⟩:=aD w.heap.size;have⟨V,g⟩:=aD (Obj.cells #[an ar 11,(nd:Int),at',a,aA tx,b,d] 33 (0,0));rw[<-l]at b1 el hi;rw[<-g]at hi;have⟨d0,d1⟩:=dk b1;have⟨W,B,HEB⟩:=aX A l g;have⟨cx2,xl,rl,_⟩:=hi.cells;have n:∀k,k<x.ws.length->nd=((k+1:Nat):Int)->cM c x r ⟨11,nd,at',a,tx,b,d⟩=({x with ws:=x.ws.set k (gH ⟨11,nd,at',a,tx,b,d⟩ (x.ws.getD k ()))},r):=λk C e=>by
  unfold cM di.upd;rw[aC (by simp),aC (by simp),aC (by simp),aC (by simp),aC (by simp),aC (by simp),aC (by simp),aC (by simp),aC (by simp),aC (by simp),aI (by simp)];simp only;rw[e,di.vO C];unfold di.set;simp
 have p:¬(1<=nd/\nd<=x.ws.length)->cM c x r ⟨11,nd,at',a,tx,b,d⟩=(x,r):=λe=>by
  unfold cM di.upd di.wk;rw[aC (by simp),aC (by simp),aC (by simp),aC (by simp),aC (by simp),aC (by simp),aC (by simp),aC (by simp),aC (by simp),aC (by simp),aI (by simp)];simp only;rw[aC e]
 have i:=au (show∀s (y:ae),dN c xb rb np rs () [] ((eb,V)::E) τ I s y->y.cell? eb=(11:Int)/\y.cell? ⟨eb,1,none⟩=(nd:Int)/\y.cell? ⟨eb,2,none⟩=at'/\y.cell? ⟨eb,3,none⟩=a/\y.cell? ⟨eb,4,none⟩=some (aA tx)/\y.cell? ⟨eb,5,none⟩=b/\y.cell? ⟨eb,6,none⟩=d fromλs y f=>by
  have⟨_,_,_,a2⟩:=f.cells;have a3:=a2 eb _ (iK ..);rw[g]at a3;exact⟨aF a3 _ rfl,aF a3 _ rfl,aF a3 _ rfl,aF a3 _ rfl,aF a3 _ rfl,aF a3 _ rfl,aF a3 _ rfl⟩)
 have hid:=hi.below ((aO u u).drew);have X:=au (i.o _ _ hid);by_cases J:1<=nd/\nd<=x.ws.length
 .obtain⟨k,rfl⟩:∃k:Nat,nd=((k+1:Nat):Int):=⟨nd.toNat-1,by omega⟩
  have C:k<x.ws.length:=by omega
  have⟨F,t,K,Y,_,Z⟩:=hid.wo C;rw[n k C rfl];have HT:=au (show∀y,ai u.drew u.drew y->aj prog 73 #[F.dp,aG #[an ar 11,an ar ((k+1:Nat):Int),at',a,aA tx,b,d]] y λe z=>e=ax (aM #[])/\dN c xb rb np rs () [] ((eb,V)::E) τ I ({x with ws:=x.ws.set k (gH ⟨11,((k+1:Nat):Int),at',a,tx,b,d⟩ (x.ws.getD k ()))},r) z fromλy f=>by
   have f0:Fr (λ_=>False) t (eP t u.drew .tmp) u.drew y:=Fr.of_below f _ _ _;refine(VA (K.fr f0 (λ_ _ h=>h) (λh=>h)) ⟨11,((k+1:Nat):Int),at',a,tx,b,d⟩ ha).mono ?_;rintro e z ⟨rfl,L,m2,j1,j2,j3⟩;exact⟨rfl,Z z _ L m2 _ _ j1 j2 ((f0.mono (λ_ e=>e.elim)).trans j3) (gK.nil _ _)⟩)
  have HD:=au (show∀y,ai u.drew u.drew y->aj prog 54 #[F.bx] y λe z=>e=ax F.dp/\y=z fromλy f=>
   NC (K.fr (P:=λ_=>False) (Fr.of_below f _ t .tmp) (λ_ _ h=>h) (λh=>h)))
  have⟨M,j⟩:=aK Y hid;have⟨q,hq⟩:= @aD (di×cS) ({x with ws:=x.ws.set k (gH ⟨11,((k+1:Nat):Int),at',a,tx,b,d⟩ (x.ws.getD k ()))},r);rw[<-hq]at HT⊢;clear n p J C K Y Z hid hq;generalize((k+1:Nat):Int)=nd at*;generalize F.bx=bx at*;generalize F.dp=dp at*;clear h hi A l g U b1;go_in;go_upto_region 1 with fail
  rw[<-W.o,<-B.o];go_upto_region 30 with fail
  go_region_held3 (λy=>y.cell? eb=(11:Int)/\y.cell? ⟨eb,1,none⟩=(nd:Int)/\y.cell? ⟨eb,2,none⟩=at'/\y.cell? ⟨eb,3,none⟩=a/\y.cell? ⟨eb,4,none⟩=some (aA tx)/\y.cell? ⟨eb,5,none⟩=b/\y.cell? ⟨eb,6,none⟩=d) (first|(with_reducible exact X.o)|(with_reducible exact N.o)|(with_reducible exact O.o)) (first
   |(go_at_call 22;refine M.m ?_;rintro e y1 ⟨rfl,f⟩;have N:=au (i.o _ _ (j.o.below f));have G:=au f;clear f)
   |(go_at_call 54;(with_reducible refine aH (HD.o _ G.o) ?_))
   |(go_at_call 73;refine(HT.o _ G.o).mono ?_;rintro e y2 ⟨rfl,hs⟩;have O:=au (i.o _ _ hs);have HS:=au hs;clear hs))
  all_goals
   have Q:=au (HS.o.less (E':=E) (λ_ T=>du _ T));go_wp2
   go_end0
   exact⟨rfl,Q.o⟩
 .have M:=au (hid.zN nd J)
  rw[p J];have j:=au hid;clear n p J hid;clear h hi A l g U b1;go_in;go_upto_region 1 with fail
  rw[<-W.o,<-B.o];go_upto_region 30 with fail
  go_region_held3 (λy=>y.cell? eb=(11:Int)/\y.cell? ⟨eb,1,none⟩=(nd:Int)/\y.cell? ⟨eb,2,none⟩=at'/\y.cell? ⟨eb,3,none⟩=a/\y.cell? ⟨eb,4,none⟩=some (aA tx)/\y.cell? ⟨eb,5,none⟩=b/\y.cell? ⟨eb,6,none⟩=d) (first|(with_reducible exact X.o)|(with_reducible exact N.o)|(with_reducible exact O.o)) (first
   |(go_at_call 22;refine M.m ?_;rintro e y1 ⟨rfl,f⟩;have N:=au (i.o _ _ (j.o.below f));have G:=au f;clear f)
   |(go_at_call 54;(with_reducible refine aH (KI _) ?_))
   |(go_at_call 73;refine(KJ _ ⟨11,nd,at',a,tx,b,d⟩).mono ?_;rintro e y2 ⟨rfl,hs⟩;have H:=au (G.o.trans (hs.mono G.o.size));have O:=au (i.o _ _ (j.o.below H.o));clear hs))
  all_goals
   have Q:=au ((j.o.below H.o).less (E':=E) (λ_ T=>du _ T));go_wp2
   go_end0
   exact⟨rfl,Q.o⟩
def NQ{I:ae}{x:di}{r:cS}(h:dN c xb rb np rs () [] E τ I (x,r) w)(nd at' a:Int)(tx:ByteArray)(b d:Int)(ha:ld at'):
 aj prog 47 #[xb,rb,aG #[an ar 12,(nd:Int),at',a,aA tx,b,d]] w λe w'=>e=ax (aM #[])/\dN c xb rb np rs () [] E τ I (cM c x r ⟨12,nd,at',a,tx,b,d⟩) w':=by
 have⟨u,A⟩:=aD (w.alloc (aB #[an ar 12,(nd:Int),at',a,aA tx,b,d] 33 (0,0)));have⟨b1,U,el⟩:=dt A;have hi:=h.box _ A;have⟨eb,l⟩:=aD w.heap.size;have⟨V,g⟩:=aD (Obj.cells #[an ar 12,(nd:Int),at',a,aA tx,b,d] 33 (0,0));rw[<-l]at b1 el hi;rw[<-g]at hi;have⟨d0,d1⟩:=dk b1;have⟨W,B,HEB⟩:=aX A l g;have⟨cx2,xl,rl,_⟩:=hi.cells;have n:∀k,k<x.ws.length->nd=((k+1:Nat):Int)->cM c x r ⟨12,nd,at',a,tx,b,d⟩=({x with ws:=x.ws.set k (gH ⟨12,nd,at',a,tx,b,d⟩ (x.ws.getD k ()))},r):=λk C e=>by
  unfold cM di.upd;rw[aC (by simp),aC (by simp),aC (by simp),aC (by simp),aC (by simp),aC (by simp),aC (by simp),aC (by simp),aC (by simp),aC (by simp),aI (by simp)];simp only;rw[e,di.vO C];unfold di.set;simp
 have p:¬(1<=nd/\nd<=x.ws.length)->cM c x r ⟨12,nd,at',a,tx,b,d⟩=(x,r):=λe=>by
  unfold cM di.upd di.wk;rw[aC (by simp),aC (by simp),aC (by simp),aC (by simp),aC (by simp),aC (by simp),aC (by simp),aC (by simp),aC (by simp),aC (by simp),aI (by simp)];simp only;rw[aC e]
 have i:=au (show∀s (y:ae),dN c xb rb np rs () [] ((eb,V)::E) τ I s y->y.cell? eb=(12:Int)/\y.cell? ⟨eb,1,none⟩=(nd:Int)/\y.cell? ⟨eb,2,none⟩=at'/\y.cell? ⟨eb,3,none⟩=a/\y.cell? ⟨eb,4,none⟩=some (aA tx)/\y.cell? ⟨eb,5,none⟩=b/\y.cell? ⟨eb,6,none⟩=d fromλs y f=>by
  have⟨_,_,_,a2⟩:=f.cells;have a3:=a2 eb _ (iK ..);rw[g]at a3;exact⟨aF a3 _ rfl,aF a3 _ rfl,aF a3 _ rfl,aF a3 _ rfl,aF a3 _ rfl,aF a3 _ rfl,aF a3 _ rfl⟩)
 have hid:=hi.below ((aO u u).drew);have X:=au (i.o _ _ hid);by_cases J:1<=nd/\nd<=x.ws.length
 .obtain⟨k,rfl⟩:∃k:Nat,nd=((k+1:Nat):Int):=⟨nd.toNat-1,by omega⟩
  have C:k<x.ws.length:=by omega
  have⟨F,t,K,Y,_,Z⟩:=hid.wo C;rw[n k C rfl];have HT:=au (show∀y,ai u.drew u.drew y->aj prog 73 #[F.dp,aG #[an ar 12,an ar ((k+1:Nat):Int),at',a,aA tx,b,d]] y λe z=>e=ax (aM #[])/\dN c xb rb np rs () [] ((eb,V)::E) τ I ({x with ws:=x.ws.set k (gH ⟨12,((k+1:Nat):Int),at',a,tx,b,d⟩ (x.ws.getD k ()))},r) z fromλy f=>by
   have f0:Fr (λ_=>False) t (eP t u.drew .tmp) u.drew y:=Fr.of_below f _ _ _;refine(VA (K.fr f0 (λ_ _ h=>h) (λh=>h)) ⟨12,((k+1:Nat):Int),at',a,tx,b,d⟩ ha).mono ?_;rintro e z ⟨rfl,L,m2,j1,j2,j3⟩;exact⟨rfl,Z z _ L m2 _ _ j1 j2 ((f0.mono (λ_ e=>e.elim)).trans j3) (gK.nil _ _)⟩)
  have HD:=au (show∀y,ai u.drew u.drew y->aj prog 54 #[F.bx] y λe z=>e=ax F.dp/\y=z fromλy f=>
   NC (K.fr (P:=λ_=>False) (Fr.of_below f _ t .tmp) (λ_ _ h=>h) (λh=>h)))
  have⟨M,j⟩:=aK Y hid;have⟨q,hq⟩:= @aD (di×cS) ({x with ws:=x.ws.set k (gH ⟨12,((k+1:Nat):Int),at',a,tx,b,d⟩ (x.ws.getD k ()))},r);rw[<-hq]at HT⊢;clear n p J C K Y Z hid hq;generalize((k+1:Nat):Int)=nd at*;generalize F.bx=bx at*;generalize F.dp=dp at*;clear h hi A l g U b1;go_in;go_upto_region 1 with fail
  rw[<-W.o,<-B.o];go_upto_region 30 with fail
  go_region_held3 (λy=>y.cell? eb=(12:Int)/\y.cell? ⟨eb,1,none⟩=(nd:Int)/\y.cell? ⟨eb,2,none⟩=at'/\y.cell? ⟨eb,3,none⟩=a/\y.cell? ⟨eb,4,none⟩=some (aA tx)/\y.cell? ⟨eb,5,none⟩=b/\y.cell? ⟨eb,6,none⟩=d) (first|(with_reducible exact X.o)|(with_reducible exact N.o)|(with_reducible exact O.o)) (first
   |(go_at_call 22;refine M.m ?_;rintro e y1 ⟨rfl,f⟩;have N:=au (i.o _ _ (j.o.below f));have G:=au f;clear f)
   |(go_at_call 54;(with_reducible refine aH (HD.o _ G.o) ?_))
   |(go_at_call 73;refine(HT.o _ G.o).mono ?_;rintro e y2 ⟨rfl,hs⟩;have O:=au (i.o _ _ hs);have HS:=au hs;clear hs))
  all_goals
   have Q:=au (HS.o.less (E':=E) (λ_ T=>du _ T));go_wp2
   go_end0
   exact⟨rfl,Q.o⟩
 .have M:=au (hid.zN nd J)
  rw[p J];have j:=au hid;clear n p J hid;clear h hi A l g U b1;go_in;go_upto_region 1 with fail
  rw[<-W.o,<-B.o];go_upto_region 30 with fail
  go_region_held3 (λy=>y.cell? eb=(12:Int)/\y.cell? ⟨eb,1,none⟩=(nd:Int)/\y.cell? ⟨eb,2,none⟩=at'/\y.cell? ⟨eb,3,none⟩=a/\y.cell? ⟨eb,4,none⟩=some (aA tx)/\y.cell? ⟨eb,5,none⟩=b/\y.cell? ⟨eb,6,none⟩=d) (first|(with_reducible exact X.o)|(with_reducible exact N.o)|(with_reducible exact O.o)) (first
   |(go_at_call 22;refine M.m ?_;rintro e y1 ⟨rfl,f⟩;have N:=au (i.o _ _ (j.o.below f));have G:=au f;clear f)
   |(go_at_call 54;(with_reducible refine aH (KI _) ?_))
   |(go_at_call 73;refine(KJ _ ⟨12,nd,at',a,tx,b,d⟩).mono ?_;rintro e y2 ⟨rfl,hs⟩;have H:=au (G.o.trans (hs.mono G.o.size));have O:=au (i.o _ _ (j.o.below H.o));clear hs))
  all_goals
   have Q:=au ((j.o.below H.o).less (E':=E) (λ_ T=>du _ T));go_wp2
   go_end0
   exact⟨rfl,Q.o⟩
def fM.retag{i:Nat}{m:CT}{v:gL}(h:fM τ w i m v)(C:∀b,b<w.heap.size->e_ i (τ b)∨τ b=.keep->σ b=τ b):fM σ w i m v:=by
 have e:∀b t,b<w.heap.size->τ b=t->(e_ i t∨t=.keep)->σ b=t:=λb t a u A=>by
  rw[<-u]at A;rw[C b a A,u]
 have⟨G,H,I⟩:=h.q.lts;have j:∀v o,EJ τ w v o->EJ σ w v o:=λv o B=>by
  cases o with
  |none=>exact B
  |some W=>
   obtain⟨p,g,J,K,l,f,L,M,N⟩:=B;exact⟨p,g,J,K,l,f,L,M,λb a=>e b _ (f.lt b a) (N b a) (.inr rfl)⟩
 refine⟨h.c,h.k,⟨h.d.c,h.d.m,λz O=> ?_,h.d.nd,e _ _ (az h.d.c) h.d.tp (.inl (by simp[e_,iP])),e _ _ h.d.m.lt h.d.tb (.inl (by simp[e_,iP])),h.d.l0,h.d.l1⟩,h.iv,h.ln,⟨?_,e _ _ h.s.lt h.s.t (.inl (by simp[e_,iP]))⟩,h.q,
  e _ _ (az h.c) h.tb (.inl (by simp[e_,iP])),λb a=>e b _ (h.k.lt b a) (h.tk b a) (.inr rfl),e _ _ G h.t1 (.inl (by simp[e_,iP])),e _ _ H h.t2 (.inl (by simp[e_,iP])),λb a=>e b _ (I b a) (h.t3 b a) (.inl (by simp[e_,iP]))⟩
 .have q:=h.d.r z O
  exact⟨q.c,q.g,q.n,e _ _ (az q.c) q.ta (.inl (by simp[e_,iP])),λb a=>e b _ (q.g.lt b a) (q.tg b a) (.inr rfl),λb a=>e b _ (q.n.lt b a) (q.tn b a) (.inr rfl),q.ok⟩
 .have⟨F,n,Q,T,U⟩:=h.s.m
  refine⟨F,n,Q,T,λs=> ?_⟩;have:=U s;revert this;cases v.QU.find? (·.s==s)with
  |none=>exact id
  |some x=>rintro⟨V,l,f⟩;exact⟨V,l,j _ _ f⟩
def fZ.tidy{i bx:Nat}{v:gL}(h:fZ i bx v τ w w'):∃br m,fM br w' i m v/\m.bx=bx/\Fr (e_ i) τ br w w'/\∀b,w.heap.size<=b->e_ i (br b)∨br b=.keep:=by
 obtain⟨d,m,g,j,f⟩:=h;refine⟨Go.Proofs.YtjpnlfpompnpkaaGreat.tidy (e_ i) τ d w,m,g.retag λb _ a=> ?_,j,PI f,λb a=>Bd _ _ _ _ a⟩;unfold Go.Proofs.YtjpnlfpompnpkaaGreat.tidy;split
 .rename_i e;exact(f.old b e).symm
 .split
  .rfl
  .rename_i k
   obtain a|a:=a
   .exact bL a k
   .exact a.symm
def dN.abQ(h:dN c xb rb np rs v ls E τ w s wr){B:Int}(g:cI c B s.1.co)(i:0<=B)(q:B<=800000)(r:Vr s.1.co)(a:Int):∃b d cap p,wr.cell? ⟨xb,1,none⟩=some (av (some ⟨b,d,none⟩) (s.1.ws.length+1) cap)/\s.1.ws.length<=maxLen/\b<wr.heap.size/\
 wr.cell? ⟨b,d+0,none⟩=some (.iface 124 (aG #[aL (some ⟨p,0,none⟩)]))/\
  aj prog 243 #[aG #[aL (some ⟨p,0,none⟩)],an ar a] wr λe y=>∃v,e=ax v/\dN c xb rb np rs v (iD c s.1.co a).2 E τ w ({s.1 with co:=(iD c s.1.co a).1},s.2) y:=by
 obtain⟨br,f,j,g1,g2,u,x,A,J,C⟩:=h;have⟨b,d,cap,c1,c2,c3,c4,c5⟩:=g1.cl.node g2;refine⟨b,d,cap,f.co.cb,c1,c2,c3,c4,af1 (R:=λe y=>∃v,e=ax v/\dN c xb rb np rs v (iD c s.1.co a).2 E τ w ({s.1 with co:=(iD c s.1.co a).1},s.2) y) (λy m=> ?_) (λe y F=> ?_)⟩
 .have⟨n,G⟩:=g1.same m .tmp
  have k:Fr (λ_=>False) br (eP br wr .tmp) wr y:=Fr.of_below m _ _ _;refine(abK n.cl.co g i q r a).mono ?_;rintro e z ⟨v,rfl,l,m2,l1,t1,t2,t3⟩;refine⟨v,rfl,l,⟨f.xb,m2,f.ws,f.nv,f.ng,f.np,f.rv,f.rg,f.rs⟩,j,n.ND t1 t2 t3,g2,u,x,(A.trans G).trans (t3.mono λt e=>Ga _ e),l1.mono λb H=>by rw[H.1];simp,λb o e=> ?_⟩;have⟨a1,I⟩:=C b o e;have a3:=(k.old b (az a1)).trans I;exact⟨t3.at (k.at a1 id) (by rw[a3];simp[dB]),(t3.old b (az (k.at a1 id))).trans a3⟩
 .obtain⟨v,e1,_⟩:=F
  exact⟨v,e1⟩
def dN.abR(h:dN c xb rb np rs v ls E τ w s wr){k:Nat}(x:k<s.1.ws.length)(A:∀a∈(s.1.ws.getD k ()).q,a.text.size<=1000/\a.batch<=1000/\ld a.aR)(i:Int):∃b f cap p,wr.cell? ⟨xb,1,none⟩=some (av (some ⟨b,f,none⟩) (s.1.ws.length+1) cap)/\s.1.ws.length<=maxLen/\b<wr.heap.size/\
 wr.cell? ⟨b,f+(k+1),none⟩=some (.iface 93 (aG #[aL (some ⟨p,0,none⟩)]))/\
  aj prog 218 #[aG #[aL (some ⟨p,0,none⟩)],an ar i] wr λe y=>∃v,e=ax v/\dN c xb rb np rs v (dO (s.1.ws.getD k ())).2 E τ w ({s.1 with ws:=s.1.ws.set k (dO (s.1.ws.getD k ())).1},s.2) y:=by
 obtain⟨br,d,l,g1,g2,B,C,F,M,G⟩:=h;have⟨b,f,cap,c1,c2,c3,c4,c5⟩:=g1.cl.node g2;have g:k<d.ws.length:=by rw[g1.cl.wl];exact x
 refine⟨b,f,cap,(d.ws[k]).bx,c1,c2,c3,c5 k g,af3 (R:=λe y=>∃v,e=ax v/\dN c xb rb np rs v (dO (s.1.ws.getD k ())).2 E τ w ({s.1 with ws:=s.1.ws.set k (dO (s.1.ws.getD k ())).1},s.2) y) (λy r=> ?_) (λe y H=> ?_)⟩
 .have⟨u,I⟩:=g1.same r .tmp
  have m:Fr (λ_=>False) br (eP br wr .tmp) wr y:=Fr.of_below r _ _ _;refine(abH (u.cl.ws k g) A).mono ?_;rintro e z ⟨v,rfl,l1,l2⟩;have⟨n,m2,t1,t2,t3,J⟩:=l2.tidy;refine⟨v,rfl,n,⟨d.xb,d.co,d.ws.set k m2,d.nv,d.ng,d.np,d.rv,d.rg,d.rs⟩,l,u.PH g t1 t2 t3,g2,B,C,(F.trans I).trans (t3.mono λt e=>zM _ e),?_,λb o e=> ?_⟩
  .refine(gK.of l1).mono λb K=> ?_
   obtain j|j:=J b K.1
   .refine⟨λe=> ?_,λe=> ?_⟩<;>rw[e]at j<;>simp[e_,iP]at j
   .rw[j];simp
  .have⟨a1,L⟩:=G b o e
   have a3:=(m.old b (az a1)).trans L;exact⟨t3.at (m.at a1 id) (by rw[a3];simp[e_,iP]),(t3.old b (az (m.at a1 id))).trans a3⟩
 .obtain⟨v,e1,_⟩:=H
  exact⟨v,e1⟩
def EF.ok{x:cB}(h:EF x):Vr x:=λy a s=>by
 unfold jl;split
 .rename_i k b
  exact bD (h y a _ (bh _ _ (vh b))) (by decide)
 .exact bz _
def Gf(s:ByteArray):cQ (qU s):=λx a=>by
 unfold qU at a;obtain⟨b,_,rfl⟩:=List.mem_map.1 a;have:=b.toNat_lt;omega
def rB(xs:List Int):cQ (o6 xs):=pU (λ_=>gj _ _) xs
def VE(x:aY):cQ (qZ x):=dW (dW (gj _ _) (gj _ _)) (Gf _)
def YO(m:cd):cQ m.body:=by
 cases m with
 |eu a b=>exact rB _
 |grant a b c=>exact rB _
 |stop a b=>exact rB _
 |ask a=>exact dW (dW (dW (dW (dW (dW (dW (dW (rB _) (gj _ _)) (Gf _)) (gj _ _)) (gj _ _)) (gj _ _)) (gj _ _)) (gj _ _)) (Gf _)
 |dj r=>exact dW (dW (dW (rB _) (gj _ _)) (pU VE _)) (gj _ _)
def VF(m:cd):cQ m.frame:=by
 have b:cQ (nY ([0,0,m.kind]++m.body)):=dW (gj _ _) λx a=>by
  have a:=nu a;obtain a|a:=List.mem_append.1 a
  .have:0<=m.kind/\m.kind<256:=by cases m<;>simp[cd.kind]
   simp only[bQ,ez,or_false]at a;omega
  .exact YO m x a
 exact dW b (gj _ _)
def GOk(c:aV)(g:GV):Prop:=cQ g.fr/\g.fr.length<=1000/\0<=g.tO/\g.tO<=c.workers
structure qK(c:aV)(L:List GV):Prop where
 g:∀g∈L,GOk c g
 n:(L.length:Int)<=c.net
variable{L:List GV}
def qK.send(h:qK c L){x:GV}(b:GOk c x):qK c (sx c.net L x):=by
 unfold sx;split
 .rename_i d
  refine⟨λg a=> ?_,by rw[bF];simp only[cG,dx];omega⟩;obtain a|a:=List.mem_append.1 a
  .exact h.g g a
  .rw[List.mem_singleton.1 a];exact b
 .exact h
def qK.took(h:qK c L)(i:Int):qK c (gG L i):=by
 unfold gG;split
 .have b:=h.n
  have d:=List.length_eraseIdx_le L i.toNat;exact⟨λg a=>h.g g (List.mem_of_mem_eraseIdx a),by omega⟩
 .exact h
def uD{i:Int}(h:qm L.length i=true):L.getD i.toNat ()∈L:=by
 have⟨k,b,a⟩:=rM h;exact bh _ _ (by omega)
def qK.double(h:qK c L)(i:Int):qK c (pK L c.net i):=by
 unfold pK;split
 .rename_i b
  unfold ot at b;simp only[cV,ei]at b;refine⟨λg a=> ?_,by rw[bF];simp only[cG,dx];omega⟩;obtain a|a:=List.mem_append.1 a
  .exact h.g g a
  .rw[List.mem_singleton.1 a];exact h.g _ (uD b.1)
 .exact h
def qK.TB(h:qK c L)(i a y:Int):qK c (sL L i a y):=by
 unfold sL;split
 .rename_i d
  unfold qV at d;simp only[cV]at d;have b:=h.g _ (uD d.1);refine⟨λg e=> ?_,by rw[ds];exact h.n⟩;obtain e|rfl:=jC e
  .exact h.g g e
  .exact⟨EC b.1 _ (EA _ _),by unfold GV.spoilt GV.turn;simp only[ds];exact b.2.1,b.2.2.1,b.2.2.2⟩
 .exact h
structure f_(c:aV)(n:Nat)(x:di):Prop where
 co:cI c (24*(n:Int)) x.co
 td:jf x.co
 af:EF x.co
 wl:(x.ws.length:Int)=c.workers
 id:∀i,i<x.ws.length->(x.ws.getD i ()).id=(i:Int)+1
 lf:∀i,i<x.ws.length->1<=(x.ws.getD i ()).life/\(x.ws.getD i ()).life<=(n:Int)+1
 aq:∀i,i<x.ws.length->∀a∈(x.ws.getD i ()).q,nG a=true
 nx:0<=x.next/\x.next<=24*(n:Int)
 nt:qK c x.net
variable{n:Nat}
def f_.mono{m:Nat}(h:f_ c n x)(b:n<=m):f_ c m x:=
 ⟨h.co.mono (by omega),h.td,h.af,h.wl,h.id,λi a=>by have:=h.lf i a;omega,h.aq,by have:=h.nx;omega,h.nt⟩
def LtS(c:aV)(l:List fF):Prop:=∀y∈l,0<=y.dst/\y.dst<=c.workers
def xz.lq{l:List fF}(h:xz c l):LtS c l:=λy a=>by have:=h y a;omega
def RR(a:Int){s:di×cS}{y:fF}(h:qK c s.1.net)(b:0<=y.dst/\y.dst<=c.workers):qK c (cF c a s y).1.net/\(cF c a s y).1.co=s.1.co/\(cF c a s y).1.ws=s.1.ws/\s.1.next<=(cF c a s y).1.next/\(cF c a s y).1.next<=s.1.next+1:=by
 unfold cF;split
 .rename_i d
  refine⟨h.send ⟨VF _,EP d,b.1,b.2⟩,rfl,rfl,?_,?_⟩<;>simp only<;>omega
 .exact⟨h,rfl,rfl,Int.le_refl _,by omega⟩
def vQ(a:Int):∀(l:List fF) (x:di) (r:cS),qK c x.net->LtS c l->qK c (dh c x r a l).1.net/\(dh c x r a l).1.co=x.co/\(dh c x r a l).1.ws=x.ws/\x.next<=(dh c x r a l).1.next/\(dh c x r a l).1.next<=x.next+l.length
 | [],x,r,h,_=>⟨h,rfl,rfl,Int.le_refl _,by simp[dh]⟩
 |y::l,x,r,h,b=>by
  have⟨g,i,j,d,f⟩:=RR (c:=c) a (s:=(x,r)) h (b y (by simp));have⟨k,m,o,q,t⟩:=vQ a l (cF c a (x,r) y).1 (cF c a (x,r) y).2 g (λz p=>b z (du _ p));have e:dh c x r a (y::l)=dh c (cF c a (x,r) y).1 (cF c a (x,r) y).2 a l:=rfl;have d:x.next<=(cF c a (x,r) y).1.next:=d;have f:(cF c a (x,r) y).1.next<=x.next+1:=f;rw[e];refine⟨k,m.trans i,o.trans j,by omega,?_⟩;rw[cG];omega
def f_.sent{r:cS}{lh:Int}{l:List fF}{y:cB}(h:f_ c n x)(h1:cI c (24*((n+1:Nat):Int)) y)(h2:jf y)(d:EF y)(hl:LtS c l)(g:l.length<=24):f_ c (n+1) (dh c {x with co:=y} r lh l).1:=by
 have⟨e,b,a,k4,f⟩:=vQ (c:=c) lh l {x with co:=y} r h.nt hl;simp only at b a k4 f;refine⟨by rw[b];exact h1,by rw[b];exact h2,by rw[b];exact d,by rw[a];exact h.wl,by rw[a];exact h.id,by rw[a];intro i hi;have:=h.lf i hi;omega,by rw[a];exact h.aq,?_,e⟩;have:=h.nx;omega
def f_.work(h:f_ c n x){k:Nat}(d:k<x.ws.length){v:gL}(h1:v.id=(k:Int)+1)(h2:1<=v.life/\v.life<=(n:Int)+2)(f:∀a∈v.q,nG a=true):f_ c (n+1) {x with ws:=x.ws.set k v}:=by
 have b:∀i,(x.ws.set k v).getD i ()=if i=k then v else x.ws.getD i ():=λi=>by
  simp only[aU,iW];by_cases e:k=i
  .subst e;simp[d]
  .simp[e,Ne.symm e]
 refine⟨(h.mono (Nat.le_succ n)).co,h.td,h.af,by simp only[ds];exact h.wl,λi hi=> ?_,λi hi=> ?_,λi hi=> ?_,(h.mono (Nat.le_succ n)).nx,h.nt⟩
 .simp only[ds]at hi
  simp only;rw[b];split
  .rename_i e;subst e;exact h1
  .exact h.id i hi
 .simp only[ds]at hi
  simp only;rw[b];split
  .omega
  .have:=h.lf i hi;omega
 .simp only[ds]at hi
  simp only;rw[b];split
  .exact f
  .exact h.aq i hi
def f_.Bi(h:f_ c n x)(a:qK c L):f_ c n {x with net:=L}:=⟨h.co,h.td,h.af,h.wl,h.id,h.lf,h.aq,h.nx,a⟩
def lR(x:di)(i:Int)(f:gL->gL):(x.upd i f=x/\¬(1<=i/\i<=x.ws.length))∨∃k,k<x.ws.length/\i=(k:Int)+1/\x.upd i f={x with ws:=x.ws.set k (f (x.ws.getD k ()))}:=by
 unfold di.upd di.wk;by_cases h:1<=i/\i<=x.ws.length
 .right
  rw[aI h];refine⟨(i-1).toNat,by omega,by omega,rfl⟩
 .left
  rw[aC h];exact⟨rfl,h⟩
def RS{L:List cf}{a r:cf}(h:r∈jA L a):r=a∨r∈L:=by
 unfold jA at h;split at h
 .split at h
  .exact Jd h
  .obtain h|h:=List.mem_append.1 h
   .exact .inr h
   .exact .inl (List.mem_singleton.1 h)
 .exact .inr h
def VG(w:gL)(m:cd)(e:m.may=true)(h:∀a∈w.q,nG a=true):(dD w m).id=w.id/\(dD w m).life=w.life/\∀a∈(dD w m).q,nG a=true:=by
 unfold dD;split
 .split
  .split
   .exact⟨rfl,rfl,h⟩
   .exact⟨rfl,rfl,h⟩
  .split
   .rename_i a d
    refine⟨rfl,rfl,λr b=> ?_⟩;obtain rfl|b:=RS b
    .exact d.1
    .exact h r b
   .exact⟨rfl,rfl,h⟩
  .exact⟨rfl,rfl,λr b=>h r (List.mem_filter.1 b).1⟩
  .exact⟨rfl,rfl,h⟩
 .exact⟨rfl,rfl,h⟩
def KO(w:gL)(h:∀a∈w.q,nG a=true):(dO w).1.id=w.id/\(dO w).1.life=w.life/\(∀a∈(dO w).1.q,nG a=true)/\(∀y∈(dO w).2,y.dst=0)/\(dO w).2.length<=1:=by
 unfold dO;split
 .split
  .split
   .rename_i a q d
    refine⟨rfl,rfl,λr e=>h r (by rw[d];exact du _ e),λy b=> ?_,by simp⟩;rw[List.mem_singleton.1 b]
   .refine⟨rfl,rfl,h,λy b=> ?_,by simp⟩
    rw[List.mem_singleton.1 b]
  .refine⟨rfl,rfl,h,λy b=> ?_,by simp⟩
   rw[List.mem_singleton.1 b]
 .exact⟨rfl,rfl,h,by simp,by simp⟩
def f_.workers(h:f_ c n x):1<=c.workers/\c.workers<=5:=⟨(aV.bounds h.co.may).w1,(aV.bounds h.co.may).w2⟩
def KP(h:f_ c n x){d:Int}{m:cd}(g:m.may=true):LtS c (fL c x d m).2/\(fL c x d m).2.length<=5/\∀r a,f_ c (n+1) (dh c (fL c x d m).1 r a (fL c x d m).2).1:=by
 unfold fL;split
 .have⟨f,i⟩:=PC (c:=c) x.co m h.workers
  exact⟨f.lq,i,λr a=>h.sent ((XV h.co m).mono (by omega)) (Yq h.td h.co m) (Ys h.af m) f.lq (by simp only;omega)⟩
 .refine⟨λ_ e=>(by cases e),(by simp),λr a=> ?_⟩
  show f_ c (n+1) (x.upd d λw=>dD w m)
  obtain⟨e,_⟩|⟨k,b,_,e⟩:=lR x d λw=>dD w m
  .rw[e];exact h.mono (Nat.le_succ n)
  .rw[e]
   have⟨j,l,o⟩:=VG (x.ws.getD k ()) m g (h.aq k b);exact h.work b (j.trans (h.id k b)) (by rw[l];have:=h.lf k b;omega) o
def NR(h:f_ c n x)(r:cS)(i:Int):f_ c (n+1) (eE c x r i).1:=by
 unfold eE;split
 .have b:=h.Bi (h.nt.took i)
  simp only;split
  .exact b.mono (Nat.le_succ n)
  .rename_i m a
   have d:m.may=true:=by
    obtain⟨q,e,_⟩|⟨f,e,d⟩:=rV (ij x.net i).fr
    .rw[e]at a;cases a
    .rw[e]at a;obtain rfl:=Option.some.inj a;exact d
   split
   .exact(KP b d).2.2 _ _
   .exact b.mono (Nat.le_succ n)
 .exact h.mono (Nat.le_succ n)
def KQ(h:f_ c n x)(nd a:Int):LtS c (gM c x nd a).2/\(gM c x nd a).2.length<=24/\∀r lh,f_ c (n+1) (dh c (gM c x nd a).1 r lh (gM c x nd a).2).1:=by
 unfold gM;split
 .have⟨h1,h2⟩:=F9 h.co (by omega) a
  have k:=Ri h.co (by omega) a;exact⟨h1.lq,h2,λr lh=>h.sent ((XW h.co (by omega) a).mono (by omega)) (k.td h.td) (h.af.same k.ss) h1.lq h2⟩
 .unfold di.wk
  by_cases l:1<=nd/\nd<=x.ws.length
  .rw[aI l]
   have d:(nd-1).toNat<x.ws.length:=by omega
   have⟨o,p,q,t,w⟩:=KO (x.ws.getD (nd-1).toNat default) (h.aq _ d);have z:=h.workers;have hl:LtS c (dO (x.ws.getD (nd-1).toNat default)).2:=λy u=>by rw[t y u];omega
   refine⟨hl,by simp only;omega,λr lh=> ?_⟩;have f:=h.work d (o.trans (h.id _ d)) (by rw[p];have:=h.lf _ d;omega) q;have i:=h.co.mono (B':=24*((n+1:Nat):Int)) (by omega);have⟨v,g,b,k4,m⟩:=vQ (c:=c) lh (dO (x.ws.getD (nd-1).toNat default)).2 {x with ws:=x.ws.set (nd-1).toNat (dO (x.ws.getD (nd-1).toNat default)).1} r h.nt hl
   show f_ c (n+1) (dh c {x with ws:=x.ws.set (nd-1).toNat (dO (x.ws.getD (nd-1).toNat default)).1} r lh _).1
   simp only at g b k4 m;have j:=h.nx;exact⟨by rw[g];exact i,by rw[g];exact h.td,by rw[g];exact h.af,by rw[b];exact f.wl,by rw[b];exact f.id,by rw[b];exact f.lf,by rw[b];exact f.aq,⟨Int.le_trans j.1 k4,Int.le_trans m (by omega)⟩,v⟩
  .rw[aC l]
   exact⟨λ_ e=>(by cases e),by simp,λr lh=>h.mono (Nat.le_succ n)⟩
def rW(h:f_ c n x)(e:cO):f_ c (n+1) (bC c x e).1:=by
 have d:=h.mono (Nat.le_succ n);have j:=h.workers;unfold bC cM;by_cases l:e.kind=1
 .rw[aI l]
  have⟨i,A⟩:=rS (c:=c) x.co e.text e.k e.n j;exact h.sent ((QW h.co _ _ _).mono (by omega)) (Rh h.td h.co _ _ _) (Rj h.af _ _ _) i.lq (by omega)
 rw[aC l];by_cases m:e.kind=2
 .rw[aI m]
  have⟨i,A⟩:=rT (c:=c) x.co e.at' j;exact h.sent ((QV h.co _).mono (by omega)) (Rg h.td h.co _) (Rk h.af _) i.lq (by omega)
 rw[aC m];by_cases o:e.kind=3
 .rw[aI o]
  exact⟨(XT h.co).mono (by omega),h.td.same rfl rfl rfl,h.af,d.wl,d.id,d.lf,d.aq,d.nx,d.nt⟩
 rw[aC o];by_cases p:e.kind=4
 .rw[aI p]
  by_cases r:0<=e.node/\e.node<=x.ws.length
  .rw[aI r]
   exact(KQ h e.node e.x).2.2 _ _
  .rw[aC r]
   exact d
 rw[aC p];by_cases t:e.kind=5
 .rw[aI t]
  exact NR h _ _
 rw[aC t];by_cases u:e.kind=6
 .rw[aI u]
  split
  .exact(h.Bi (h.nt.took _)).mono (Nat.le_succ n)
  .exact d
 rw[aC u];by_cases v:e.kind=7
 .rw[aI v]
  exact(h.Bi (h.nt.double _)).mono (Nat.le_succ n)
 rw[aC v];by_cases w:e.kind=8
 .rw[aI w]
  exact(h.Bi (h.nt.TB _ _ _)).mono (Nat.le_succ n)
 rw[aC w];by_cases y:e.kind=9
 .rw[aI y]
  show f_ c (n+1) (x.upd e.node eL)
  obtain⟨e,_⟩|⟨k,b,_,e⟩:=lR x e.node eL
  .rw[e];exact d
  .rw[e]
   have z:=h.lf k b;refine h.work b ?_ ?_ ?_
   .rw[<-h.id k b];unfold eL;split<;>rfl
   .have:(eL (x.ws.getD k ())).life=(x.ws.getD k ()).life:=by unfold eL;split<;>rfl
    omega
   .have:(eL (x.ws.getD k ())).q=(x.ws.getD k ()).q:=by unfold eL;split<;>rfl
    rw[this];exact h.aq k b
 rw[aC y];by_cases f:e.kind=10
 .rw[aI f]
  show f_ c (n+1) (x.upd e.node gV)
  obtain⟨e,_⟩|⟨k,b,_,e⟩:=lR x e.node gV
  .rw[e];exact d
  .rw[e]
   have z:=h.lf k b;unfold gV;split
   .exact h.work b (h.id k b) (by omega) (h.aq k b)
   .exact h.work b (h.id k b) (by show _<=_+1/\_+1<=_;omega) (λa C=>by cases C)
 rw[aC f];by_cases g:e.kind=11∨e.kind=12
 .rw[aI g]
  show f_ c (n+1) (x.upd e.node (gH e))
  obtain⟨e,_⟩|⟨k,b,_,E⟩:=lR x e.node (gH e)
  .rw[e];exact d
  .rw[E]
   have z:=h.lf k b;exact h.work b (h.id k b) (by show _<=_/\_<=_;unfold gH;simp only;omega) (h.aq k b)
 rw[aC g];exact d
def Gg(h:fX c=true):f_ c 0 (gA c):=by
 have j:=aV.bounds h;have l:(gA c).ws.length=c.workers.toNat:=by simp[gA]
 have e:∀i,i<(gA c).ws.length->(gA c).ws.getD i ()=qz c ((i:Int)+1):=λi b=>by
  have:i<c.workers.toNat:=by omega
  simp[gA,aU,this]
 refine⟨?_,?_,λy f=>(by cases f),(by rw[l];have:=j.w1;omega),λi b=>(by rw[e i b];rfl),λi b=>(by rw[e i b];simp[qz,oI]),λi b=>(by rw[e i b];intro a m;cases m),⟨Int.le_refl _,Int.le_refl _⟩,⟨λg e=>(by cases e),?_⟩⟩
 .refine⟨h,qQ _,by simp[gA,xm],by simp[gA,xm],Int.le_refl _,by simp[gA,xm],rfl,λy f=>(by cases f),List.Pairwise.nil,λk id d=> ?_,λid b=>(by cases b)⟩
  have d:mC (List.replicate c.slots.toNat 0) k=some id:=d;rw[DY]at d;cases d
 .refine⟨λk d=>bL d (kG k),λk d=>bL d (kG k),λy f=>(by cases f),λt o=>(by cases o),?_⟩
  show 0=cntF (List.replicate c.slots.toNat 0)
  rw[uT]
 .have:=j.n1
  simp only[gA,dx];omega
def KR(c:aV)(k:Nat):di:=⟨xm c,(List.range k).map λi:Nat=>qz c ((i:Int)+1),0,[]⟩
def YP(c:aV):KR c c.workers.toNat=gA c:=rfl
def ZC:Obj:=aB #[aL none,(),aL none,()] 90 (0,0)
def Bj(k:Nat)(τ:cj):Prop:=∀b j,k<j->¬e_ j (τ b)
def YI.tidy{id:Int}{i:Nat}{e:ak}(h:YI c id i τ w e w')(o:∀b,¬e_ i (τ b)):∃br m,e=ax (aM #[m.bx,an ar 0])/\fM br w' i m (qz c id)/\Fr (λ_=>False) τ br w w'/\∀b,w.heap.size<=b->e_ i (br b)∨br b=.keep:=by
 obtain⟨f,m,rfl,j,d⟩:=h;refine⟨Go.Proofs.YtjpnlfpompnpkaaGreat.tidy (e_ i) τ f w,m,rfl,j.retag λb _ a=> ?_,⟨d.os,d.tape,d.output,d.size,λk l=>by unfold Go.Proofs.YtjpnlfpompnpkaaGreat.tidy;rw[aI l],d.block⟩,λb a=>Bd _ _ _ _ a⟩;unfold Go.Proofs.YtjpnlfpompnpkaaGreat.tidy;split
 .rename_i g;exact(d.old b g).symm
 .split
  .rfl
  .rename_i n
   obtain a|a:=a
   .exact bL a n
   .exact a.symm
def RT:(prog.info? 96).map (λi=>(i.zero,i.size,i.bytes))=some (some .nilIface,1,16):=by kernel_rfl
def RU{y0 p y4:ae}{h:jG}{a:cj}(hm:fX c=true)(Y:Bj 0 τ)(Z:cJ c a p h (xm c))(o:Fr (λ_=>False) (eP τ y0 .cl) a (y0.alloc ZC) p)(h3:∀b,(y0.alloc ZC).heap.size<=b->dB (a b)∨a b=.keep)
 (O:NF (p.setCell ⟨y0,0,none⟩ h.cb).heap.size [] y4 (p.setCell ⟨y0,0,none⟩ h.cb).heap.size c.net 0 []) (y:ai (p.setCell ⟨y0,0,none⟩ h.cb).heap.size (p.setCell ⟨y0,0,none⟩ h.cb) y4)
 (l n q:ae) (z:l=y4.setCell ⟨y0,2,none⟩ (aL (some ⟨(p.setCell ⟨y0,0,none⟩ h.cb).heap.size,0,none⟩))) (A:n=l.setCell ⟨y0,1,none⟩ (av (some ⟨l,0,none⟩) 1 1)) (Q:q=n.alloc (aB #[.iface 124 (aG #[h.cb])] 96 (0,0))):
 ∃r T,lx c r q T (KR c 0) []/\T.xb=y0.heap.size/\Fr (λ_=>False) τ r y0 q/\Bj 0 r:=by
 have⟨f,s⟩:=aD y0.heap.size;have⟨d,B⟩:=aD (p.setCell ⟨y0,0,none⟩ h.cb);rw[<-B]at O y z;rw[<-s]at B z A⊢;have b1:(y0.alloc ZC).heap[f]? =some ZC:=by rw[s];exact a_ _ _
 have s1:(y0.alloc ZC).heap.size=f+1:=by rw[s];simp
 have b2:=(o.block f (by omega) (λe=>e)).trans b1;have U:=(o.old f (by omega)).trans (d_ (by omega));have C:aQ [f] p d:=by rw[B];exact(aQ.refl _ _).setCell _ (by simp) _
 have V:d.heap[f]? =some (aB #[h.cb,(),aL none,()] 90 (0,0)):=by rw[B];simpa using aE (i:=0) b2 h.cb
 have W:=az V;have b4:=(y.block f W).trans V;have E:aQ [f] y4 l:=by rw[z];exact(aQ.refl _ _).setCell _ (by simp) _
 have b5:l.heap[f]? =some (aB #[h.cb,(),d.heap.size,()] 90 (0,0)):=by rw[z];simpa using aE (i:=2) b4 d
 have X:aQ [f] l n:=by rw[A];exact(aQ.refl _ _).setCell _ (by simp) _
 have s6:n.heap.size=l.heap.size:=by rw[A];simp[World.setCell]
 have F:n.heap[f]? =some (aB #[h.cb,av (some ⟨l,0,none⟩) 1 1,d.heap.size,()] 90 (0,0)):=by rw[A];simpa using aE (i:=1) b5 (av (some ⟨l,0,none⟩) 1 1)
 have G:ai n n q:=by rw[Q];exact(aO _ _).alloc (aP _) _
 have b7:=(G.block f (az F)).trans F;have n7:q.heap[l.heap.size]? =some (aB #[.iface 124 (aG #[h.cb])] 96 (0,0)):=by rw[Q,<-s6];exact a_ _ _
 have⟨g,ns,ng⟩:=Own.Cs (show Own l 96 1 q (av (some ⟨l,0,none⟩) 1 1) [.iface 124 (aG #[h.cb])] 1 from⟨rfl,.inr ⟨_,1,_,rfl,aP _,n7,aP _,by decide,rfl,rfl⟩⟩);have fA:Fr (·=.cl) a a p d:=Fr.fm C (by simpa using U);have H:eP a d .net f=.cl:=(dZ W).trans U;have fB:Fr (·=.cl) a (eP a d .net) d y4:=Fr.of_below y _ _ _;have fC:Fr (·=.cl) (eP a d .net) (eP a d .net) y4 l:=Fr.fm E (by simpa using H);have fD:Fr (·=.cl) (eP a d .net) (eP a d .net) l n:=Fr.fm X (by simpa using H);have fE:Fr (·=.cl) (eP a d .net) (eP (eP a d .net) n.heap.size .cl) n q:=Fr.of_below G _ _ _;have tD:eP (eP a d .net) n.heap.size .cl f=.cl:=(dZ (az F)).trans H;have u:=(fC.trans fD).trans fE;have m:=(fA.trans fB).trans u;obtain⟨I,nv,Ms,J,K,L,_,_⟩:=O;have M:YC (eP a d .net) y4 d c.net 0 []:=⟨I,nv,Ms,J,K,λx hx=>d_ (L x hx)⟩;refine⟨eP (eP a d .net) n.heap.size .cl,⟨f,h,[],av (some ⟨l,0,none⟩) 1 1,g,d.heap.size,(),none,[]⟩,⟨b7,tD,Z.fr m (λt ht e=> ?_) (by simp),rfl,λi hi=>bL hi (kG i),ns,λb v=>d_ (by have:=ng b v;omega),M.fr u (by simp),⟨Seg.nil _ _ _,λk hk=>bL hk (kG k),λb v=>by cases v⟩,rfl⟩,rfl,⟨?_,?_,?_,?_,λb v=> ?_,λb v _=> ?_⟩,λb j hj=> ?_⟩
 .have e:=e
  subst e;simp[dB]at ht
 .exact m.os.trans o.os
 .exact m.tape.trans o.tape
 .exact m.output.trans o.output
 .have:=m.size;have:=o.size;omega
 .have:=m.old b (by have:=o.size;omega)
  rw[this,o.old b (by omega),dZ (by omega)]
 .have hs2:=o.size
  have hs3:=C.size;have hs5:=E.size;have ne:b∉[f]:=by simp;omega
  rw[G.block b (by omega),X.block b (by omega) ne,E.block b (by omega) ne,y.block b (by omega),C.block b (by omega) ne,o.block b (by omega) (λe=>e)];exact fH _ _ _ (by omega)
 .unfold eP
  split
  .split
   .obtain h6|h6:=Nat.lt_or_ge b (f+1)
    .rw[o.old b (by omega)]
     unfold eP;split
     .exact Y b j hj
     .simp[e_,iP]
    .obtain N|N:=h3 b (by omega)
     .exactλh8=>Gb h8 N
     .rw[N];exact nj j
   .simp[e_,iP]
  .simp[e_,iP]
def lx.akF{m:I3}{k:Nat}{o:CT}{y:ae}(h:lx c τ w m (KR c k) [])(hk:k<=1000)(U:fM br y (k+1) o (qz c ((k:Int)+1)))(A:Fr (λ_=>False) τ br w y)(hF:Bj k τ)(V:∀b,w.heap.size<=b->e_ (k+1) (br b)∨br b=.keep):
 ∃v' z,y.cell? ⟨m.xb,1,none⟩=m.nv/\(∃a n q,m.nv=av a n q)/\(∀W,(Builtin.append_ #[87,87] W #[m.nv,av (some ⟨y,0,none⟩) 1 1]).run prog (y.alloc (aB #[.iface 93 (aG #[o.bx])] 96 (0,0)))=.ok v' z)/\(∃a n q,v'=av a n q)/\
  z.cell? ⟨m.xb,1,none⟩=m.nv/\z.frozen? ⟨m.xb,1,none⟩=false/\∃p K,lx c p (z.setCell ⟨m.xb,1,none⟩ v') K (KR c (k+1)) []/\K.xb=m.xb/\Fr (·=.cl) τ p w (z.setCell ⟨m.xb,1,none⟩ v')/\Bj (k+1) p:=by
 have g:=h.fr A (λ_ e=>e.elim);have s:=g.bx;have⟨na,nk,B,_,_⟩:=g.nd.len;have⟨v',z,u,X,L,M,Y⟩:=g.nd.push 87 underlying87 RT rfl (by decide) [.iface 93 (.agg #[o.bx])] rfl (by simp[Value.oneCell']) (by rw[g.wl];simp[KR];omega) (by decide);have Z:∀b,m.ng=some b->b≠m.xb:=λb d e=>by subst e;exact jH g.nd s (by decide) d
 have C:=M.block m.xb (az s) (λe=>Z m.xb (by simpa using e) rfl);have l:=C.trans s;have N:aQ [m.xb] z (z.setCell ⟨m.xb,1,none⟩ v'):=(aQ.refl _ _).setCell _ (by simp) _;have O:Fr (·=.cl) br (eP br y .cl) y z:=Fr.dC M (λb d=>g.nt b (by simpa using d)) _;have f2:Fr (·=.cl) (eP br y .cl) (eP br y .cl) z (z.setCell ⟨m.xb,1,none⟩ v'):=Fr.fm N (λb d=>by
  simp only[cm]at d;subst d;exact(O.old _ (az s)).trans g.t)
 have f:=O.trans f2;have⟨va,vc,hv,_⟩:=L.len;have Q:(KR c (k+1)).ws=(KR c k).ws++ [qz c ((k:Int)+1)]:=by simp[KR,List.range_succ]
 have v:m.ws.length=k:=by rw[h.wl];simp[KR]
 have E:(KR c k).ws.length=k:=by simp[KR]
 have x:∀{i:Nat} {t:Tg},e_ i t->¬t=.cl:=λr e=>by subst e;simp[e_,iP]at r
 refine⟨v',z,aF s _ rfl,⟨_,_,_,B⟩,X,⟨_,_,_,hv⟩,aF l _ rfl,bB l _,
  eP br y .cl,⟨m.xb,m.co,m.ws++ [o],v',u,m.np,m.rv,m.rg,m.rs⟩,⟨?_,(f.old _ (az s)).trans g.t,g.co.fr f (λt r e=> ?_) (by simp),?_,λi T=> ?_,?_,λb d=> ?_,g.net.fr f (by simp),g.rc.fr f (by simp) (λ_ _=>by simp),g.rv⟩,rfl,(A.mono λ_ e=>e.elim).trans f,λb j hj=> ?_⟩
 .simpa using aE (i:=1) l v'
 .have e:=e
  subst e;simp[dB]at r
 .show(m.ws++ [o]).length=_
  rw[Q,bF,bF,h.wl];rfl
 .show fM _ _ (i+1) ((m.ws++ [o])[i]) ((KR c (k+1)).ws.getD i ())
  have T:i<m.ws.length+1:=by simpa using T
  rw[Q];by_cases e:i<m.ws.length
  .have F:(m.ws++ [o])[i]=m.ws[i]:=List.getElem_append_left e
   have G:((KR c k).ws++ [qz c ((k:Int)+1)]).getD i ()=(KR c k).ws.getD i ():=by
    simp[aU,gZ (show i<(KR c k).ws.length by omega)]
   rw[F,G];exact(g.ws i e).fr f (λt r=>x r) (by simp)
  .obtain rfl:i=k:=by omega
   have F:(m.ws++ [o])[i]=o:=by simp[<-v]
   have G:((KR c i).ws++ [qz c ((i:Int)+1)]).getD i ()=qz c ((i:Int)+1):=by
    simp[aU,E]
   rw[F,G];exact U.fr f (λt r=>x r) (by simp)
 .have e:vJ ⟨m.xb,m.co,m.ws++ [o],v',u,m.np,m.rv,m.rg,m.rs⟩=vJ m++ [.iface 93 (aG #[o.bx])]:=by simp[vJ]
  have:Seg z 96 1 u v' (vJ m++ [.iface 93 (aG #[o.bx])]) (m.ws.length+1+1):=L
  show Seg _ 96 1 u v' _ ((m.ws++ [o]).length+1)
  rw[e,bF];exact this.bH N (λb d e=>by
   simp only[cm]at e;subst e;exact jH this l (by decide) d)
 .obtain e|⟨b',e,H⟩:=Y
  .have d:u=some b:=d
   rw[e]at d;exact(f.old b (g.nd.lt b d)).trans (g.nt b d)
  .have d:u=some b:=d
   rw[e]at d;simp only[bA]at d;subst d;exact d_ H
 .unfold eP
  split
  .rename_i hlt
   obtain I|I:=Nat.lt_or_ge b w
   .rw[A.old b I]
    exact hF b j (by omega)
   .obtain J|J:=V b I
    .exactλh7=>PG (by omega) J h7
    .rw[J];exact nj j
  .simp[e_,iP]
def NwP(c:aV)(τ:cj)(w:ae)(e:ak)(w':ae):Prop:=
 ∃br m,e=ax (aM #[m.xb,an ar 0])/\lx c br w' m (gA c) []/\Fr (λ_=>False) τ br w w'
def NwI(c:aV)(xb:Nat)(k:Nat)(τ0:cj)(y0:ae)(y:ae):Prop:=
 ∃br m,lx c br y m (KR c k) []/\m.xb=xb/\Fr (λ_=>False) τ0 br y0 y/\Bj k br
def KS(c:aV)(w:ae)(k:c.ok w)(s:fX c=false):aj prog 44 #[c.val] w λe w'=>e=ax (aM #[aL none,an ar 2])/\ai w w w':=by
 have⟨u,l⟩:=aD (w.alloc (aB c.cells.toArray 25 (0,0)));have⟨a,G,n⟩:=aV.box l;have g:=D1 c u (k.below n.aJ);rw[s]at g;have⟨t,v⟩:=aK g n.aJ;obtain⟨A,B,p,x,b,d,h,i,aS,j,first,q,f,net⟩:=c;have H:=a 0 _ rfl;have I:=a 1 _ rfl;have J:=a 2 _ rfl;have K:=a 3 _ rfl;have L:=a 4 _ rfl;have M:=a 5 _ rfl;have N:=a 6 _ rfl;have O:=a 7 _ rfl;have Q:=a 8 _ rfl;have T:=a 9 _ rfl;have C:=a 10 _ rfl;have E:=a 11 _ rfl;unfold aV.val at t⊢;have F:=au (show u=w.alloc (aB #[A,B,b,d,h,i,aS,j,first,q,f,net] 25 (0,0))from l);clear l a n k s g;go_in;go_upto_region 1 with fail
 rw[<-F.o];go_wp2_with fail
 refine t.m ?_;rintro e y ⟨rfl,z⟩;have r:=au (v.o.trans (z.mono v.o.size));clear z;go_wp2;go_ret2;exact⟨rfl,r.o⟩
def EU(c:aV)(w:ae)(B:c.ok w)(hm:fX c=true):aj prog 44 #[c.val] w (NwP c (λ_=>.keep) w):=by
 have⟨u,hu⟩:=aD (w.alloc (aB c.cells.toArray 25 (0,0)));have⟨hc,hl,hg⟩:=aV.box hu;have H:u.heap[w.heap.size]? =some (aB c.cells.toArray 25 (0,0)):=by rw[hu];exact a_ _ _
 have E:=B.below hg.aJ;have X:=D1 c u E;rw[hm]at X;have F:=aV.bounds hm;have⟨HM,HB,O⟩:=aX X hg.aJ E;have⟨t,Y⟩:=aD w.heap.size;rw[<-Y]at H hc;have⟨Z,I,HNW⟩:=aX (show∀br y,c.ok y->aj prog 57 #[c.val] y (Vp c br y)fromλbr y Q=>RC c br y Q hm) (show∀br y (k:Nat),c.ok y->(k:Int)<c.workers->Bj k br->aj prog 59 #[c.val,an ar ((k:Int)+1)] y (YI c ((k:Int)+1) (k+1) br y)fromλbr y k Q hk hF=>afL c ((k:Int)+1) (k+1) br y Q hm (by omega) (by omega) (λb _=>hF b (k+1) (by omega))) (show∀y,aj prog 58 #[c.net] y λe w'=>e=ax (aM #[y.heap.size,an ar 0])/\(NF y [] w' y c.net 0 []/\ai y y w')fromλy=>ahL y c.net (by have:=F.n1;omega) F.n2);have hw1:=F.w1;have hw2:=F.w2;have HMC:=au hm;have⟨C,hC⟩:=aD c;obtain⟨wv,cv,words,cuts,d,g,l,p,aS,r,first,cap,h,net⟩:=c;rw[<-hC]at O HMC HM Z I HNW⊢;have⟨vR,XJ⟩:=aK (show C.val=aG #[wv,cv,d,g,l,p,aS,r,first,cap,h,net]by rw[hC];rfl) (show C.workers=d/\C.net=net by rw[hC];exact⟨rfl,rfl⟩);have th:=au (show∀y,ai u u y->C.ok y/\t<y/\y.cell? t=(wv)/\y.cell? ⟨t,1,none⟩=(cv)/\y.cell? ⟨t,2,none⟩=d/\y.cell? ⟨t,3,none⟩=g/\y.cell? ⟨t,4,none⟩=l/\y.cell? ⟨t,5,none⟩=p/\y.cell? ⟨t,6,none⟩=aS/\y.cell? ⟨t,7,none⟩=r/\y.cell? ⟨t,8,none⟩=first/\y.cell? ⟨t,9,none⟩=cap/\y.cell? ⟨t,10,none⟩=h/\y.cell? ⟨t,11,none⟩=net fromλy Q=>by
  have f:=(Q.block t (az H)).trans H;exact⟨O.o.below Q,az f,aF f _ rfl,aF f _ rfl,aF f _ rfl,aF f _ rfl,aF f _ rfl,aF f _ rfl,aF f _ rfl,aF f _ rfl,aF f _ rfl,aF f _ rfl,aF f _ rfl,aF f _ rfl⟩)
 have⟨_,_,h0,h1,h2,h3,h4,h5,h6,h7,h8,h9,h10,h11⟩:=th.o u (aO _ _);have hcv:=vR.o;have⟨hcw,hcn⟩:=XJ.o;rw[hcv]at HM Z I⊢;rw[hcw]at I;rw[hcn]at HNW;have⟨HU,HEB⟩:=aK (show u=w.alloc (aB #[wv,cv,d,g,l,p,aS,r,first,cap,h,net] 25 (0,0))from hu) Y;clear hu hc hg B E hm X F hC H Y hcv hcw hcn;go_in;go_upto_region 1 with fail
 rw[<-HU.o,<-HEB.o];go_wp2_with fail
 refine HM.m ?_;rintro e y0 ⟨rfl,f⟩;have HB0:=au f;have⟨_,g0,a0,a1,a2,a3,a4,a5,a6,a7,a8,T,a10,a11⟩:=th.o y0 f;have⟨s,v⟩:=aD (λ_=>.keep:cj);have MO:=au (show Bj 0 s fromλb j hj=>by
  rw[v];exact nj j)
 have⟨HFR,HKP,J⟩:=aX (show Fr (λ_=>False) (λ_=>.keep) s w y0 by rw[v];exact Fr.eS (HB.o.trans (f.mono HB.o.size)) _ _) (show∀b,s b=.keep fromλb=>by rw[v]) (λy (Q:ai y0 y0 y)=>th.o y (HB0.o.trans (Q.mono HB0.o.size)));clear f v;have⟨y1,G⟩:=aD (y0.alloc ZC);have HY1:=au (show y1=y0.alloc (aB #[aL none,(),aL none,()] 90 (0,0))from G);have hb1:ai y0 y0 y1:=by rw[G];exact(aO _ _).alloc (aP _) _
 have⟨U,g1,b0',b1',b2',b3',b4',b5',b6',b7',b8',b9',aq4,aq5⟩:=J.o y1 hb1;have⟨se,HB1⟩:=aK (Z.o (eP s y0 .cl) y1 U) hb1;have hx1:y1.heap[y0.heap.size]? =some ZC:=by rw[G];exact a_ _ _
 have⟨HX1,V⟩:=aK hx1 G;have g1x:=az hx1;clear U hb1 hx1 G;go_upto_region 4 with fail
 rw[<-HY1.o];go_wp2_with fail
 refine se.m ?_;rintro e y2 ⟨τ2,mc,rfl,k1,k2,k3⟩;have⟨K1,K2,K3⟩:=aX k1 k2 k3;have hb2:=HB1.o.trans ((k2.below (λ_ _ e=>e) (aP _)).mono (bD HB1.o.size (aP _)));have z2:y2.heap[y0.heap.size]? =some (aB #[aL none,(),aL none,()] 90 (0,0)):=(k2.block _ g1x (λe=>e)).trans HX1.o;have e2:=aF z2 0 rfl;have f2:=bB z2 0;have z2l:=az z2;have⟨y3,K⟩:=aD (y2.setCell ⟨y0,0,none⟩ mc.cb);have c3:aQ [y0.heap.size] y2 y3:=by rw[K];exact(aQ.refl _ _).setCell _ (by simp) _
 have hb3:=hb2.trans (c3.below (λx hx=>by simp only[cm]at hx;omega) (by omega));have z3:y3.heap[y0.heap.size]? =some (aB #[mc.cb,(),aL none,()] 90 (0,0)):=by rw[K];simpa using aE (i:=0) z2 mc.cb
 have⟨_,g3,_,_,_,_,_,_,_,_,_,_,_,d11⟩:=J.o y3 hb3;have⟨Mh,HB3,L,Z3⟩:=c_ (HNW.o y3) hb3 K z3;clear z2 z3 c3 hb2 hb3 K k1 k2 k3;go_upto_region 5 with fail
 rw[<-L.o];go_wp2_with fail
 refine Mh.m ?_;rintro e y4 ⟨rfl,n1,n2⟩;have⟨N1,N2⟩:=aK n1 n2;have z4:=(n2.block _ (az Z3.o)).trans Z3.o;have e4:=aF z4 2 rfl;have f4:=bB z4 2;have⟨y5,M⟩:=aD (y4.setCell ⟨y0,2,none⟩ y3.heap.size);have z5:y5.heap[y0.heap.size]? =some (aB #[mc.cb,(),y3.heap.size,()] 90 (0,0)):=by rw[M];simpa using aE (i:=2) z4 y3
 have⟨e50,e6⟩:=dk z5;have f6:=bB z5 1;have z5l:=az z5;have⟨y6,hy6⟩:=aD (y5.setCell ⟨y0,1,none⟩ (av (some ⟨y5,0,none⟩) 1 1));have⟨y7,hy7⟩:=aD (y6.alloc (aB #[.iface 124 (aG #[mc.cb])] 96 (0,0)));have⟨τ7,m7,p1,p2,p3,p4⟩:=RU (y0:=y0) (y4:=y4) HMC.o MO.o K1.o (by rw[<-V.o];exact K2.o) (by rw[<-V.o];exact K3.o) (by rw[<-L.o,XJ.o.2];exact N1.o) (by rw[<-L.o];exact N2.o) y5 y6 y7 (by rw[<-L.o];exact M) hy6 hy7;have HNI:=au (show NwI C y0 0 s y0 y7 from⟨τ7,m7,p1,p2,p3,p4⟩);have NI:=p3.below (λ_ _ e=>e) (aP _);have⟨_,g7,_,_,q2,_⟩:=J.o y7 NI;have⟨HY5,HY6,HY7⟩:=aX M hy6 hy7;clear n1 n2 z4 M hy6 hy7 z5 p1 p2 p3 p4 NI;go_upto_region 6 with fail
 rw[<-HY5.o];go_upto_region 7 with fail
 rw[<-HY6.o,<-HY7.o];obtain⟨W,rfl⟩:∃W:Nat,d=W:=⟨d.toNat,by omega⟩
 have hW:W<=5:=by omega
 clear e2 f2 e4 f4 e50 e6 f6 z2l z5l d11 hw1 hw2;go_upto_region 7 with fail
 go_wp2;go_loopw [42] (λi wr=>∃k:Nat,k<=W/\i=an ar k/\NwI C y0 k s y0 wr) (λi _=>W-(intOf i).toNat)
 case atStart=>exact⟨0,bz _,rfl,HNI.o⟩
 case round=>
  obtain⟨k,hk,rfl,hin⟩:=hrel;by_cases hlt:k<W
  .obtain⟨N,mk,i1,i2,A,i4⟩:=hin
   have⟨B,gk,c0,c1,c2,c3,c4,c5,c6,c7,c8,c9,c10,c11⟩:=J.o wr (A.below (λ_ _ e=>e) (aP _));have YK:=au (I.o N wr k B (by omega) i4);have HST:=au (show∀e y,YI C ((k:Int)+1) (k+1) N wr e y->∃bx nv v' z,e=ax (aM #[aL (some ⟨bx,0,none⟩),an ar 0])/\y.cell? ⟨y0,1,none⟩=some nv/\(∃a n q,nv=av a n q)/\(∀ty,(Builtin.append_ #[87,87] ty #[nv,av (some ⟨y,0,none⟩) 1 1]).run prog (y.alloc (aB #[.iface 93 (aG #[aL (some ⟨bx,0,none⟩)])] 96 (0,0)))=.ok v' z)/\(∃a n q,v'=av a n q)/\z.cell? ⟨y0,1,none⟩=some nv/\z.frozen? ⟨y0,1,none⟩=false/\NwI C y0 (k+1) s y0 (z.setCell ⟨y0,1,none⟩ v')fromλe y hh=>by
    obtain⟨br,mw,rfl,w1,w2,w3⟩:=hh.tidy (λb=>i4 b (k+1) (by omega));have⟨v',z,a1,a2,a3,a4,a5,a6,τ2,m2,a7,a8,T,a10⟩:=i1.akF (by omega) w1 w2 i4 w3;rw[i2]at a1 a5 a6 a7 a8 T;refine⟨mw.bx,mk.nv,v',z,rfl,a1,a2,a3,a4,a5,a6,τ2,m2,a7,a8,⟨T.os.trans A.os,T.tape.trans A.tape,T.output.trans A.output,bD A.size T.size,λb f=>(T.old b (bP f A.size)).trans (A.old b f),λb f hn=>(T.block b (bP f A.size) ?_).trans (A.block b f hn)⟩,a10⟩;rw[A.old b f,HKP.o b];simp)
   have hk1:(k:Int)+1<=6:=by omega
   have hkw:(k:Int)<(W:Int):=by omega
   clear i1 i2 A i4 B;go_upto_region 10 with fail
   go_wp2_with fail
   refine YK.m ?_;intro e y hh;obtain⟨bx,nv,v',z,rfl,a1,⟨x1,x2,x3,rfl⟩,a3,⟨x4,x5,x6,rfl⟩,a5,a6,a7⟩:=HST.o e y hh;have⟨gN,Mk⟩:=aK a3 a7;clear hh a3 a7;go_wp2_with (refine cE (by rfl) (.tmp 56) (.tmp 60) 87 (by rfl) _ _ _ z (by rfl) (by rfl) (gN.o _) ?_);go_roundw
   case rel=>exact⟨k+1,by omega,by go_num,Mk.o⟩
   case measure=>simp[intOf];omega
  .obtain rfl:k=W:=by omega
   obtain⟨N,mk,i1,i2,A,i4⟩:=hin;have HE:=au (show NwP C (λ_=>.keep) w (ax (aM #[y0.heap.size,an ar 0])) wr from⟨N,mk,by rw[i2],by
    have:(k:Nat)=C.workers.toNat:=by rw[XJ.o.1];simp
    rw[<-YP,<-this];exact i1,HFR.o.trans A⟩)
   clear i1 i2 A i4;go_wp2;go_ret2;exact HE.o
end Go.Proofs.YtjpnlfpompnpkaaGreat
