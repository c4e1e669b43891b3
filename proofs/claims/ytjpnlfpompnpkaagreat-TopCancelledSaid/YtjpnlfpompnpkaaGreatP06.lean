import Derived.Deep.RegionLaw
import Derived.Outline
import Derived.Deep.CutBlock
import Derived.Deep.RegionWith
import Derived.Test.YtjpnlfpompnpkaaGreatP02
import Derived.Test.YtjpnlfpompnpkaaGreatP03
namespace Go.Proofs.YtjpnlfpompnpkaaGreat
open Go.RowKit Go.Proofs.Tryz
open Go.Value renaming int->an,slice->av,bool->aw,string->aA,tuple->aM,pointer->aL,agg->aG
open Go.IntKind renaming i64->ar
open Go.Ending renaming returned->ax
open Go.Obj renaming cells->aB
open Go renaming World->ae,Value->ah,Calls->aj
open Go.RowKit renaming Below->ai
set_option maxRecDepth 100000
set_option linter.all false
set_option maxHeartbeats 4000000
open Go.ChangeMaps
def uZ(L:List cf):List ah:=L.flatMap (λr=> [an ar r.slot,an ar r.aR])
def pL(L:List cf):(uZ L).length=L.length*2:=by
 induction L with
 |nil=>rfl
 |cons a l b=>simp only[uZ,eI]at*;simp[b];omega
def OU(L:List cf)(a:cf):uZ (L++ [a])=uZ L++ [an ar a.slot,an ar a.aR]:=by simp[uZ]
def OV(L:List cf)(i:Nat)(h:i<L.length):(uZ L)[i*2+0]? =some (an ar (L.getD i ()).slot)/\(uZ L)[i*2+1]? =some (an ar (L.getD i ()).aR):=by
 induction L generalizing i with
 |nil=>simp at h
 |cons a l b=>
  cases i with
  |zero=>exact⟨rfl,rfl⟩
  |succ i=>
   have:=b i (by simpa using h);have e:uZ (a::l)=an ar a.slot::an ar a.aR::uZ l:=by simp[uZ]
   rw[e,show(i+1)*2+0=(i*2+0)+2 by omega,show(i+1)*2+1=(i*2+1)+2 by omega];simpa using this
def OW(L:List cf)(a:cf):uZ (qE L a)=uZ L:=by
 induction L with
 |nil=>rfl
 |cons r l b=>
  simp only[uZ,qE,gi,eI,(kx a r).1,(kx a r).2]at*;rw[b]
def zD(L:List cf)(a:cf):(qE L a).length=L.length:=by simp[qE]
def pA(w:ae)(p b:Nat)(g:Option Nat)(L:List cf):Prop:=
 ∃v,w.heap[p]? =some (aB #[v,.map (some b)] 266 (0,0))/\Seg w 372 2 g v (uZ L) L.length/\iL w b (gJ L) L.length/\p≠b/\g≠some p/\g≠some b/\Cr L
def pA.bH{w w':ae}{p b:Nat}{g:Option Nat}{L:List cf}{S:List Nat}(h:pA w p b g L)(a:aQ S w w')(d:p∉S)(e:b∉S)(f:∀x,g=some x->x∉S):pA w' p b g L:=by
 obtain⟨v,i,j,c,r⟩:=h;exact⟨v,a.at i d,j.bH a f,c.same (a.block b c.lt e),r⟩
def ady(w:ae):aj prog 107 #[] w λe w'=>e=ax (aL (some ⟨w.heap.size+1,0,none⟩))/\(pA w' (w.heap.size+1) w none []/\ai w w w'):=by
 have a:= @run_makeMap prog;go_in;go_wp2;go_ret;refine⟨rfl,⟨av none 0 0,?_,Seg.nil _ _ _,?_,by omega,by simp,by simp,⟨by simp,List.Pairwise.nil⟩⟩,((aO _ _).alloc (aP _) _).alloc (by simp) _⟩
 .have:=a_ (w.alloc (.map #[] 0)) (aB #[(),.map (some w)] 266)
  simpa using this
 .exact(iL.made w).same ((aO (w.alloc (.map #[] 0)).heap.size _).alloc (aP _) _|>.block _ (by simp))
def W8{w:ae}{p b:Nat}{g:Option Nat}{L:List cf}(h:pA w p b g L):aj prog 225 #[p] w λe w'=>e=ax (L.length:Int)/\w=w':=by
 obtain⟨v,c,d,_⟩:=h;obtain⟨a,f,rfl,j,i⟩:=d.len;have k:=aF c 0 rfl;unfold maxLen at i;clear c d;go_in;go_wp2;go_ret;exact⟨rfl,rfl⟩
def W9(r:cf)(w:ae)(p:Nat)(c:okV r=false):aj prog 221 #[p,r.val] w λe w'=>e=ax (aw false)/\ai w w w':=by
 obtain⟨a,g,b,i,j,k,l,m,n,d,f⟩:=r;have c:¬(0<=a/\a<4/\0<=b/\b<6):=λh=>by
  rw[(od _).2 h]at c;cases c
 show aj prog 221 #[p,aG #[a,g,b,i,j,aA k,l,m,aw n,d,aA f]] w _
 by_cases o:a<0
 .go_in
  go_wp2;go_ret;exact⟨rfl,(aO _ _).alloc (aP _) _⟩
 by_cases q:4<=a
 .go_in
  go_wp2;go_ret;exact⟨rfl,(aO _ _).alloc (aP _) _⟩
 by_cases s:b<0
 .go_in
  go_wp2;go_ret;exact⟨rfl,(aO _ _).alloc (aP _) _⟩
 have t:6<=b:=by omega
 go_in;go_wp2;go_ret;exact⟨rfl,(aO _ _).alloc (aP _) _⟩
def Qr:(prog.info? 372).map (λi=>(i.zero,i.size,i.bytes))=some (some (aG #[an ar 0,an ar 0]),2,16):=by kernel_rfl
def iU{P:Program}{w:ae}{b:Array Oper}{o:Oper}{a:Act}{K:Act->ae->Prop}{Q:Exit->Act->ae->Prop}{E:Prop}(g:o.guard=none)(s x:Operand)(t:TypeId)
 (h:o.op=.call {callee:=.builtin .append,args:= #[s,x],argTypes:= #[t,t]}) (v d e:ah) (f:ae) (hs:a.eval s=v) (i:a.eval x=d)
 (c:(Builtin.append_ #[t,t] o.type #[v,d]).run P w=.ok e f) (j:K (a.put o.dst e) f):if Region.wanted o (yielded b a.tmps)=true then Oper.wp P o a w K Q else E:=by
 have k:Region.wanted o (yielded b a.tmps)=true:=by simp[Region.wanted,g]
 rw[aI k];unfold Oper.wp;simp[execOp,h,resolve,invoke,builtin,hs,i,c,Result.andThen];exact j
def W_{w:ae}{p b:Nat}{g:Option Nat}{L:List cf}(h:pA w p b g L)(r:cf)(hv:okV r=true)(hx:gJ L r.slot r.aR=none):
 aj prog 221 #[p,r.val] w λe w'=>e=ax (aw true)/\
  ∃g',pA w' p b g' (L++ [r])/\aQ (p::b::g.toList) w w'/\(g'=g∨∃x,g'=some x/\w.heap.size<=x):=by
 have T:=(od r).1 hv;have H:=au h;have hsm:=h.choose_spec.2.2.2.2.2.2.small;obtain⟨v,B,h2,s,n1,n2,n3,ok⟩:=h;have hp:=az B;have hb:=s.lt;have hgl:=h2.lt;obtain⟨a,C,c,E,F,G,I,J,K,d,f⟩:=r;simp only at T hx;obtain⟨v1,v2,v3,v4⟩:=T
 show aj prog 221 #[p,aG #[a,C,c,E,F,aA G,I,J,aw K,d,aA f]] w _
 clear B h2 s;go_in;go_upto_region 4 with fail
 have⟨rc,hrc⟩:=aD (Obj.cells #[a,C,c,E,F,aA G,I,J,aw K,d,aA f] 240 (0,0));have⟨z,hz⟩:=aD ((w.alloc rc).alloc (aB #[a,c] 372));rw[<-hrc,<-hz];have gz:aQ ([]:List Nat) w z:=hz▸((aQ.refl _ _).alloc _).alloc _;have hrz:z.heap[w.heap.size]? =some rc:=by
  have:=a_ w rc;rw[hz];exact(fH _ _ _ (by simp)).trans this
 have hpz:z.heap[w.heap.size+1]? =some (aB #[a,c] 372 (0,0)):=by
  rw[hz];have:=a_ (w.alloc rc) (aB #[a,c] 372);simpa using this
 have hsz:z.heap.size=w.heap.size+2:=by rw[hz];simp
 have n:=H.o.bH gz (by simp) (by simp) (by simp);have⟨v,B,h2,s,_⟩:=id n;have hx':=hx;have m:∀W:ae,W.heap[b]? =z.heap[b]? ->(Instr.lookup 263 (.map (some b)) (aG #[a,c]) true).run prog W=.ok (aM #[aG #[an ar 0,an ar 0,an ar 0,an ar 0,an ar 0,aA ByteArray.empty,an ar 0,an ar 0,aw false,an ar 0,aA ByteArray.empty],aw false]) W:=λW hW=>by
  have:=(s.same hW).look_ok (iu (x:=a) (by omega) (by omega)) (iu (x:=c) (by omega) (by omega));rw[hx']at this;exact this
 have hl0:=m z.drew rfl;have hl1:∀o,_:=λo=>m (z.alloc o).drew (fH _ _ _ s.lt)
 have c1:=aF B 1 rfl;have⟨d0,d1⟩:=dk hpz;have⟨HRC,Xa,HPZ,HQ,GZ,HX⟩:=eC hrc hrz hpz n gz hx';have HV:=au hv;clear m hz hrc hrz hpz n gz B h2 s hx hx' hv;go_region_held3 (λw'=>w'.cell? ⟨p,1,none⟩=some (.map (some b))/\w'.cell? ⟨w.heap.size+1,0,none⟩=a/\w'.cell? ⟨w.heap.size+1,1,none⟩=c) (go_keep) (fail)
 all_goals
  go_upto_region 8 with fail
  generalize hU:World.drew _=u;have gu:aQ ([]:List Nat) z u:=by rw[<-hU];exact((aQ.refl _ _).alloc _).drew
  have qu:=HQ.o.bH gu (by simp) (by simp) (by simp);have M:=gu.at HPZ.o (by simp);have hru:=gu.at Xa.o (by simp);have⟨v,B,h2,s,_⟩:=id qu;have⟨i0,hi,hz0,hz1,hz2⟩:=info_parts Qr;have U:aQ ([]:List Nat) u (u.alloc (aB #[a,c] 372)).drew:=((aQ.refl _ _).alloc _).drew;have⟨v',x,g',V,t,i,hgg,hgs⟩:=(h2.bH U (by simp)).append (P:=prog) 264 i0 (aG #[an ar 0,an ar 0]) 16 underlying264 hi hz0 hz1 hz2 rfl (by decide)
   ⟨u,0,none⟩ 1 1 (by decide) [an ar a,an ar c] rfl (λj y N=>by
    have:=a_ u (aB #[a,c] 372)
    match j,N with
    |0,N=>simp at N;subst N;simp[Addr.add]
    |1,N=>simp at N;subst N;simp[Addr.add]
    |j+2,N=>simp at N) (λy hy=>by simp at hy;rcases hy with rfl|rfl<;>rfl) (by unfold maxLen;omega) (by omega)
  obtain⟨ad,cp,rfl,_⟩:=t.len;have A:=i.at (U.at B (by simp)) (λe=>by
   cases hgv:g with
   |none=>rw[hgv]at e;simp at e
   |some y=>rw[hgv]at e;simp at e;exact n2 (by rw[hgv,e]))
  have e0:=aF B 0 rfl;have e1:=aF A 0 rfl;have e2:=bB A 0;have⟨d0,d1⟩:=dk M;have anP:=az B;have anQ:=az M;have anR:=az A;have gN:=au V;have hgn:∀k,(∀y,g=some y->y≠k)->k∉g.toList:=λk hk e=>by
   cases hgv:g with
   |none=>rw[hgv]at e;simp at e
   |some y=>rw[hgv]at e;simp at e;exact hk y hgv e.symm
  have hgx:∀k,w.heap.size<=k->k∉g.toList:=λk hk=>hgn k (λy hy e=>by have:=hgl y hy;omega)
  have hrx:=i.at (U.at hru (by simp)) (hgx _ (aP _));have hpx:=i.at (U.at M (by simp)) (hgx _ (by omega));have h3x:=(s.same (U.block b s.lt (by simp))).same (i.block b (by have:=U.size;have:=s.lt;omega) (hgn b (λy hy e=>n3 (by rw[hy,e]))));have gux:=(U.mono (by simp)).trans i;have X:w.heap.size+2<=u.heap.size:=by have:=gu.size;omega
  have⟨HUS,HGU,HXP,HRX,HPX,H3X⟩:=eC X gu A hrx hpx h3x;have⟨HGX,MP,HGG⟩:=aX gux t hgg;clear hrx hpx h3x gux X t hgg i;clear hU gu hru B h2 s hi hz0 hz1 hz2 V qu M A;go_region_law (first
   |(refine iU (by rfl) (.tmp 74) (.tmp 76) 264 (by rfl) _ _ _ x (by rfl) (by rfl) (gN.o _) ?_)
   |fail)
  all_goals
   go_upto_region 9 with fail
   generalize hY:World.setCell x _ _=y;have O:y.heap[p]? =some (aB #[av ad (L.length+1) cp,.map (some b)] 266 (0,0)):=by
    rw[<-hY,aE HXP.o];rfl
   have gy:aQ [p] x y:=by rw[<-hY];exact(aQ.refl _ _).setCell _ (by simp) _
   have h3y:=(H3X.o.same (gy.block b H3X.o.lt (by simp;omega)));have hry:=gy.at HRX.o (by simp;omega);have hpy:=gy.at HPX.o (by simp;omega);rw[HRC.o]at hry;have⟨w2,hup,Y,ht⟩:=(iL.same (w':=y.drew) h3y rfl).store (by omega) (iu (x:=a) (by omega) (by omega)) (iu (x:=c) (by omega) (by omega)) ⟨a,C,c,E,F,G,I,J,K,d,f⟩;have adB:(Instr.mapUpdate 263 (.map (some b)) (aG #[a,c]) (aG #[a,C,c,E,F,aA G,I,J,aw K,d,aA f])).run prog y.drew=.ok () w2:=hup;have k1:=aF O 1 rfl;have⟨k2,k3⟩:=dk hpy;have⟨m0,m1,m2,m3,m4,m5,m6,m7,m8,m9,m10⟩:=Fk hry;have hyl:=az O;have gT:=((aQ.refl _ y).drew).trans (aQ.nA ht.grown);have hb0:lA L ⟨a,C,c,E,F,G,I,J,K,d,f⟩=true:=by simp[lA,HV.o,HX.o]
   have Z:jA L ⟨a,C,c,E,F,G,I,J,K,d,f⟩=L++ [⟨a,C,c,E,F,G,I,J,K,d,f⟩]:=by simp[jA,hb0,HX.o]
   have hok:=ok.push ⟨a,C,c,E,F,G,I,J,K,d,f⟩;have Q:=Ad hb0;rw[Z]at hok Q;have hus:=HUS.o;have gw:aQ (p::b::g.toList) w w2:=(((GZ.o.trans HGU.o).mono (by simp)).trans (HGX.o.mono (by simp;intro q n;exact .inr (.inr n)))).trans ((gy.mono (by simp)).trans (gT.mono (by simp)));have l:g'≠some p/\g'≠some b/\(g'=g∨∃x,g'=some x/\w.heap.size<=x):=by
    obtain e|⟨q,e,n⟩:=HGG.o
    .rw[e];exact⟨n2,n3,.inl rfl⟩
    .have hq2:u.heap.size<=q:=by simp at n;exact bD (by have:=U.size;simp at this;omega) n
     exact⟨by rw[e];intro e2;injection e2 with e2;omega,by rw[e];intro e2;injection e2 with e2;omega,.inr ⟨q,e,by omega⟩⟩
   have hfin:∃g',pA w2 p b g' (L++ [⟨a,C,c,E,F,G,I,J,K,d,f⟩])/\aQ (p::b::g.toList) w w2/\(g'=g∨∃x,g'=some x/\w.heap.size<=x):=by
    refine⟨g',⟨_,gT.at O (by simp;omega),?_,?_,n1,l.1,l.2.1,hok⟩,gw,l.2.2⟩
    .rw[OU]
     have:=MP.o.bH (gy.mono (S':=[p,b]) (by simp)) (λq n=>by simp;exact⟨λe=>l.1 (by rw[n,e]),λe=>l.2.1 (by rw[n,e])⟩);have:=this.bH (gT.mono (S':=[p,b]) (by simp)) (λq n=>by simp;exact⟨λe=>l.1 (by rw[n,e]),λe=>l.2.1 (by rw[n,e])⟩);simpa using this
    .have:=Y (gJ (L++ [⟨a,C,c,E,F,G,I,J,K,d,f⟩])) Q.1 (λx' y' h=>Q.2 x' y' h)
     rw[HX.o]at this;simpa using this
   have ke:=au hfin;clear hfin gw l Q hok Z hb0 gT hus;clear hY O gy h3y hry hpy hup Y ht;go_region
   all_goals
    go_wp2;go_ret;exact⟨rfl,ke.o⟩
def Xb{w:ae}{p b:Nat}{g:Option Nat}{L:List cf}(h:pA w p b g L)(r x0:cf)(hv:okV r=true)(hx:gJ L r.slot r.aR=some x0):
 aj prog 221 #[p,r.val] w λe w'=>e=ax (aw (!lI x0 r))/\
  (pA w' p b g (if lI x0 r then L else qE L r)/\aQ (p::b::g.toList) w w'):=by
 have X:=(od r).1 hv;have H:=au h;have hsm:=h.choose_spec.2.2.2.2.2.2.small;obtain⟨v,Q,h2,Y,n1,n2,n3,ok⟩:=h;obtain⟨d,f,i,k,l,m,n,s,t,a,c⟩:=r;obtain⟨Z,B,b3,P,b5,b6,b7,b8,b9,G,I⟩:=x0;simp only at X hx;obtain⟨v1,v2,v3,v4⟩:=X;generalize hO:lI ⟨Z,B,b3,P,b5,b6,b7,b8,b9,G,I⟩ ⟨d,f,i,k,l,m,n,s,t,a,c⟩=ob;generalize hLL:(if ob=true then L else qE L ⟨d,f,i,k,l,m,n,s,t,a,c⟩)=LL;have T:=au hLL;clear hLL;have HO:=au hO;clear hO
 show aj prog 221 #[p,aG #[d,f,i,k,l,aA m,n,s,aw t,a,aA c]] w _
 clear Q h2 Y;go_in;go_upto_region 4 with fail
 have⟨rc,hrc⟩:=aD (Obj.cells #[d,f,i,k,l,aA m,n,s,aw t,a,aA c] 240 (0,0));have⟨z,hz⟩:=aD ((w.alloc rc).alloc (aB #[d,i] 372));rw[<-hrc,<-hz];have gz:aQ ([]:List Nat) w z:=hz▸((aQ.refl _ _).alloc _).alloc _;have hrz:z.heap[w.heap.size]? =some rc:=by
  have:=a_ w rc;rw[hz];exact(fH _ _ _ (by simp)).trans this
 have hpz:z.heap[w.heap.size+1]? =some (aB #[d,i] 372 (0,0)):=by
  rw[hz];have:=a_ (w.alloc rc) (aB #[d,i] 372);simpa using this
 have hsz:z.heap.size=w.heap.size+2:=by rw[hz];simp
 have hq:=H.o.bH gz (by simp) (by simp) (by simp);have⟨v,Q,h2,Y,_⟩:=id hq;have hx':=hx;have J:∀W:ae,W.heap[b]? =z.heap[b]? ->(Instr.lookup 263 (.map (some b)) (aG #[d,i]) true).run prog W=.ok (aM #[aG #[Z,B,b3,P,b5,aA b6,b7,b8,aw b9,G,aA I],aw true]) W:=λW hW=>by
  have:=(Y.same hW).look_ok (iu (x:=d) (by omega) (by omega)) (iu (x:=i) (by omega) (by omega));rw[hx']at this;exact this
 have hl0:=J z.drew rfl;have hl1:∀o,_:=λo=>J (z.alloc o).drew (fH _ _ _ Y.lt)
 have c1:=aF Q 1 rfl;have⟨d0,d1⟩:=dk hpz;have⟨HRC,Xa,HPZ,HQ,GZ,HX⟩:=eC hrc hrz hpz hq gz hx';have HV:=au hv;clear J hz hrc hrz hpz hq gz Q h2 Y hx hx' hv;go_region_held3 (λw'=>w'.cell? ⟨p,1,none⟩=some (.map (some b))/\w'.cell? ⟨w.heap.size+1,0,none⟩=d/\w'.cell? ⟨w.heap.size+1,1,none⟩=i) (go_keep) (fail)
 all_goals
  generalize hU:World.drew _=u;have gu:aQ ([]:List Nat) z u:=by rw[<-hU];exact((aQ.refl _ _).alloc _).drew
  have hxu:u.heap[w.heap.size+2]? =some (aB #[Z,B,b3,P,b5,aA b6,b7,b8,aw b9,G,aA I] 240 (0,0)):=by
   rw[<-hU,<-hsz];exact a_ _ _
  have qu:=HQ.o.bH gu (by simp) (by simp) (by simp);have hpu:=gu.at HPZ.o (by simp);have hru:=gu.at Xa.o (by simp);rw[HRC.o]at hru;have⟨v,Q,h2,Y,_⟩:=id qu;have⟨HQU,U,HMQ,Zf,HUP⟩:=iI qu ((GZ.o.trans gu).mono (S':=p::b::g.toList) (by simp)) Y h2 Q;have k1:=aF Q 1 rfl;have⟨k2,k3⟩:=dk hpu;have⟨m0,m1,m2,m3,m4,m5,m6,m7,m8,m9,m10⟩:=Fk hru;have x1:=aF hxu 1 rfl;have x3:=aF hxu 3 rfl;have hyl:=az Q;clear hU gu hxu qu hpu hru Q h2 Y hl0 hl1 c1 d0 d1;by_cases e1:f<B
  .skip
   have j:=au (show lI ⟨Z,B,b3,P,b5,b6,b7,b8,b9,G,I⟩ ⟨d,f,i,k,l,m,n,s,t,a,c⟩=true by simp[lI];omega);have d2:decide (f<B)=true:=by simp;omega
   have d4:(B==f)=false:=by simp;omega
   go_wp2;go_ret;obtain rfl:ob=true:=by rw[<-HO.o];exact j.o
   have y:=T.o;simp only[if_true]at y;exact⟨rfl,y▸HQU.o,U.o⟩
  by_cases e2:B=f
  .by_cases e3:k<P
   .skip
    have j:=au (show lI ⟨Z,B,b3,P,b5,b6,b7,b8,b9,G,I⟩ ⟨d,f,i,k,l,m,n,s,t,a,c⟩=true by simp[lI];omega);have d1:decide (f<B)=false:=by simp;omega
    have d2:(B==f)=true:=by simp;omega
    have d3:decide (k<P)=true:=by simp;omega
    clear e1 e2 e3;go_wp2;go_ret;obtain rfl:ob=true:=by rw[<-HO.o];exact j.o
    have y:=T.o;simp only[if_true]at y;exact⟨rfl,y▸HQU.o,U.o⟩
   .skip
    have j:=au (show lI ⟨Z,B,b3,P,b5,b6,b7,b8,b9,G,I⟩ ⟨d,f,i,k,l,m,n,s,t,a,c⟩=false by simp[lI];omega);have d1:decide (f<B)=false:=by simp;omega
    have d2:(B==f)=true:=by simp;omega
    have d3:decide (k<P)=false:=by simp;omega
    clear e1 e2 e3;go_upto_region 9 with fail
    have⟨w2,N,C,ht⟩:=(iL.same (w':=u.drew) HMQ.o rfl).store (by omega) (iu (x:=d) (by omega) (by omega)) (iu (x:=i) (by omega) (by omega)) ⟨d,f,i,k,l,m,n,s,t,a,c⟩;have adB:(Instr.mapUpdate 263 (.map (some b)) (aG #[d,i]) (aG #[d,f,i,k,l,aA m,n,s,aw t,a,aA c])).run prog u.drew=.ok () w2:=N;have V:=((aQ.refl _ u).drew).trans (aQ.nA ht.grown);have K:lA L ⟨d,f,i,k,l,m,n,s,t,a,c⟩=true:=by simp[lA,HV.o,HX.o,j.o]
    have E:jA L ⟨d,f,i,k,l,m,n,s,t,a,c⟩=qE L ⟨d,f,i,k,l,m,n,s,t,a,c⟩:=by simp[jA,K,HX.o]
    have M:=ok.push ⟨d,f,i,k,l,m,n,s,t,a,c⟩;have A:=Ad K;rw[E]at M A;have F:pA w2 p b g (qE L ⟨d,f,i,k,l,m,n,s,t,a,c⟩)/\aQ (p::b::g.toList) w w2:=by
     refine⟨⟨_,V.at HUP.o (by simp;omega),?_,?_,n1,n2,n3,M⟩,U.o.trans (V.mono (by simp))⟩
     .rw[OW,zD]
      exact Zf.o.bH V (λq hq=>by simp;exactλe=>n3 (by rw[hq,e]))
     .have:=C (gJ (qE L ⟨d,f,i,k,l,m,n,s,t,a,c⟩)) A.1 (λx' y' h=>A.2 x' y' h)
      rw[HX.o]at this;rw[zD];exact this
    have O:=au F;clear F A M E K V N C ht;go_region
    all_goals
     go_wp2;go_ret;obtain rfl:ob=false:=by rw[<-HO.o];exact j.o
     have y:=T.o;simp only[oA,if_false]at y;exact⟨rfl,y▸O.o⟩
  .skip
   have j:=au (show lI ⟨Z,B,b3,P,b5,b6,b7,b8,b9,G,I⟩ ⟨d,f,i,k,l,m,n,s,t,a,c⟩=false by simp[lI];omega);have d1:decide (f<B)=false:=by simp;omega
   have d2:(B==f)=false:=by simp;omega
   clear e1 e2;go_upto_region 9 with fail
   have⟨w2,N,C,ht⟩:=(iL.same (w':=u.drew) HMQ.o rfl).store (by omega) (iu (x:=d) (by omega) (by omega)) (iu (x:=i) (by omega) (by omega)) ⟨d,f,i,k,l,m,n,s,t,a,c⟩;have adB:(Instr.mapUpdate 263 (.map (some b)) (aG #[d,i]) (aG #[d,f,i,k,l,aA m,n,s,aw t,a,aA c])).run prog u.drew=.ok () w2:=N;have V:=((aQ.refl _ u).drew).trans (aQ.nA ht.grown);have K:lA L ⟨d,f,i,k,l,m,n,s,t,a,c⟩=true:=by simp[lA,HV.o,HX.o,j.o]
   have E:jA L ⟨d,f,i,k,l,m,n,s,t,a,c⟩=qE L ⟨d,f,i,k,l,m,n,s,t,a,c⟩:=by simp[jA,K,HX.o]
   have M:=ok.push ⟨d,f,i,k,l,m,n,s,t,a,c⟩;have A:=Ad K;rw[E]at M A;have F:pA w2 p b g (qE L ⟨d,f,i,k,l,m,n,s,t,a,c⟩)/\aQ (p::b::g.toList) w w2:=by
    refine⟨⟨_,V.at HUP.o (by simp;omega),?_,?_,n1,n2,n3,M⟩,U.o.trans (V.mono (by simp))⟩
    .rw[OW,zD]
     exact Zf.o.bH V (λq hq=>by simp;exactλe=>n3 (by rw[hq,e]))
    .have:=C (gJ (qE L ⟨d,f,i,k,l,m,n,s,t,a,c⟩)) A.1 (λx' y' h=>A.2 x' y' h)
     rw[HX.o]at this;rw[zD];exact this
   have O:=au F;clear F A M E K V N C ht;go_region
   all_goals
    go_wp2;go_ret;obtain rfl:ob=false:=by rw[<-HO.o];exact j.o
    have y:=T.o;simp only[oA,if_false]at y;exact⟨rfl,y▸O.o⟩
def adC{w:ae}{p b:Nat}{g:Option Nat}{L:List cf}(h:pA w p b g L)(r:cf):
 aj prog 221 #[p,r.val] w λe w'=>e=ax (aw (lA L r))/\
  ∃g',pA w' p b g' (jA L r)/\aQ (p::b::g.toList) w w'/\(g'=g∨∃x,g'=some x/\w.heap.size<=x):=by
 cases hv:okV r with
 |false=>
  refine(W9 r w p hv).mono λe w' ⟨a,i⟩=> ?_
  have c:aQ ([]:List Nat) w w':=aQ.of_below i;exact⟨by simpa[lA,hv]using a,g,by simpa[jA,lA,hv]using h.bH c (by simp) (by simp) (by simp),c.mono (by simp),.inl rfl⟩
 |true=>
  cases hx:gJ L r.slot r.aR with
  |none=>
   refine(W_ h r hv hx).mono λe w' ⟨a,g',d,j⟩=> ?_
   exact⟨by simpa[lA,hv,hx]using a,g',by simpa[jA,lA,hv,hx]using d,j⟩
  |some f=>
   refine(Xb h r f hv hx).mono λe w' ⟨a,d,c⟩=> ?_
   refine⟨by simpa[lA,hv,hx]using a,g,?_,c,.inl rfl⟩;cases ho:lI f r<;>simpa[jA,lA,hv,hx,ho]using d
variable{w:ae}
def sy{fn:Func}{c u:Tmp}{d:TypeId}{P:Program}{g:Nat}{v:ah}{a:Array ah}(h:fn.results= #[.cell c d,.tmp u])(e:a.getD c undef=aL (some g))
 (b:(loadVar d ⟨g,0,none⟩).run P w=.ok v w):(results fn a).run P w=.ok (aM #[v,a.getD u undef]) w:=by
 simp[results,h,asAddr,Result.andThen];simp at e;rw[e];simp[b]
def Jx{g:Nat}{r:cf}(h:w.heap[g]? =some (aB r.cells.toArray 240 (0,0))):(loadVar 240 ⟨g,0,none⟩).run prog w=.ok r.val w:=
 run_loadVar_row w g 240 240 _ (0,0) _ h underlying240 rfl (by kernel_rfl)
def TK{g:Nat}{q:cf}(h:w.heap[g]? =some (aB q.cells.toArray 240 (0,0)))(r:cf):
 (World.setCell (World.setCell (World.setCell (World.setCell (World.setCell (World.setCell (World.setCell (World.setCell (World.setCell (World.setCell (World.setCell w ⟨g,0,none⟩ r.slot) ⟨g,1,none⟩ r.query) ⟨g,2,none⟩ r.aR) ⟨g,3,none⟩ r.seq) ⟨g,4,none⟩ r.aW) ⟨g,5,none⟩ (aA r.text)) ⟨g,6,none⟩ r.k) ⟨g,7,none⟩ r.batch) ⟨g,8,none⟩ (aw r.first)) ⟨g,9,none⟩ r.jk) ⟨g,10,none⟩ (aA r.word)).heap[g]? =some (aB r.cells.toArray 240 (0,0)):=by
 have c:=h;simp only[cf.cells]at c;have d:=aE (i:=0) c r.slot;simp only[dF,cC,ct]at d;have e:=aE (i:=1) d r.query;simp only[dF,cC,ct]at e;have f:=aE (i:=2) e r.aR;simp only[dF,cC,ct]at f;have j:=aE (i:=3) f r.seq;simp only[dF,cC,ct]at j;have l:=aE (i:=4) j r.aW;simp only[dF,cC,ct]at l;have m:=aE (i:=5) l (aA r.text);simp only[dF,cC,ct]at m;have n:=aE (i:=6) m r.k;simp only[dF,cC,ct]at n;have o:=aE (i:=7) n r.batch;simp only[dF,cC,ct]at o;have p:=aE (i:=8) o (aw r.first);simp only[dF,cC,ct]at p;have a:=aE (i:=9) p r.jk;simp only[dF,cC,ct]at a;have b:=aE (i:=10) a (aA r.word);simp only[dF,cC,ct]at b;exact b
def Xc(w:ae)(g:Nat)(r:cf):aQ [g] w (World.setCell (World.setCell (World.setCell (World.setCell (World.setCell (World.setCell (World.setCell (World.setCell (World.setCell (World.setCell (World.setCell w ⟨g,0,none⟩ r.slot) ⟨g,1,none⟩ r.query) ⟨g,2,none⟩ r.aR) ⟨g,3,none⟩ r.seq) ⟨g,4,none⟩ r.aW) ⟨g,5,none⟩ (aA r.text)) ⟨g,6,none⟩ r.k) ⟨g,7,none⟩ r.batch) ⟨g,8,none⟩ (aw r.first)) ⟨g,9,none⟩ r.jk) ⟨g,10,none⟩ (aA r.word)):=
 (aQ.setCell (aQ.setCell (aQ.setCell (aQ.setCell (aQ.setCell (aQ.setCell (aQ.setCell (aQ.setCell (aQ.setCell (aQ.setCell (aQ.setCell (aQ.refl [g] w) ⟨g,0,none⟩ (by simp) r.slot) ⟨g,1,none⟩ (by simp) r.query) ⟨g,2,none⟩ (by simp) r.aR) ⟨g,3,none⟩ (by simp) r.seq) ⟨g,4,none⟩ (by simp) r.aW) ⟨g,5,none⟩ (by simp) (aA r.text)) ⟨g,6,none⟩ (by simp) r.k) ⟨g,7,none⟩ (by simp) r.batch) ⟨g,8,none⟩ (by simp) (aw r.first)) ⟨g,9,none⟩ (by simp) r.jk) ⟨g,10,none⟩ (by simp) (aA r.word))
def Xd{p b:Nat}{g:Option Nat}(h:pA w p b g []):
 aj prog 223 #[p] w λe w'=>e=ax (aM #[(default:cf).val,aw false])/\ai w w w':=by
 go_in;go_wp2_with fail
 refine aH (W8 (h.bH ((aQ.refl ([]:List Nat) w).alloc _) (by simp) (by simp) (by simp))) ?_;go_wp2;refine fS (sy rfl rfl (Jx (r:=default) (a_ w _))) rfl ?_;exact⟨rfl,(aO _ _).alloc (aP _) _⟩
def OX{p b:Nat}{g:Option Nat}{r:cf}{L:List cf}(h:pA w p b g (r::L)):
 aj prog 223 #[p] w λe w'=>e=ax (aM #[r.val,aw true])/\pA w' p b g L/\aQ (p::b::g.toList) w w':=by
 have z:=λo=>W8 (h.bH ((aQ.refl ([]:List Nat) w).alloc o) (by simp) (by simp) (by simp))
 have H:=au h;obtain⟨j,T,k,U,X,Z,a7,a8,a9,m,n⟩:=r;obtain⟨v,h1,h2,h3,n1,n2,n3,ok⟩:=h;have hv:=(od _).1 (ok.valid _ (iK ..));have f:=Tk ok;have s:=Tj ok (iK ..);have hp:=az h1;have hb:=h3.lt;obtain⟨gb,off,l,rfl,rfl,hgl,G⟩:=h2.cell (by decide) 0 (by simp);have hc0:=(G 0 j (by decide) rfl).1;have hc1:=(G 1 k (by decide) rfl).1;simp only[Nat.zero_mul,bM]at hc0 hc1;have c0:=aF h1 0 rfl;have f0:=bB h1 0;have⟨OK,H3,H2,H1⟩:=c_ ok h3 h2 h1
 skip
 have anW:(((L.length:Int)+1)==0)=false:=by simp;omega
 simp only at hv f s;obtain⟨v1,v2,v3,v4⟩:=hv;have aly:=H2.o.len;clear h1 h2 h3 G ok;obtain⟨I,Ty⟩:∃I,(if l=1 then some (⟨gb,off,none⟩:Addr)else some ⟨gb,off+2,none⟩)=I:=⟨_,rfl⟩
 have HAD:=au Ty;go_in;go_wp2_with fail
 refine aH (z _) ?_;clear z;go_upto_region 5 with fail
 clear Ty;generalize O:World.alloc (World.alloc (World.setCell w _ _) _) _=u;have J:u.heap[p]? =some (aB #[av I L.length (l-1),.map (some b)] 266 (0,0)):=by
  rw[<-O,fH _ _ _ (by simp;omega),fH _ _ _ (by simp;omega),aE H1.o];rfl
 have gu:aQ [p] w u:=by rw[<-O];exact(((aQ.refl _ _).setCell _ (by simp) _).alloc _).alloc _
 have K:∀V,(w.setCell ⟨p,0,none⟩ V).heap.size=w.heap.size:=λV=>by simp[World.setCell]
 have hz:u.heap[w.heap.size]? =some (aB (default:cf).cells.toArray 240 (0,0)):=by
  rw[<-O,fH _ _ _ (by simp[K])];have:=a_ (w.setCell ⟨p,0,none⟩ (av I L.length (l-1))) (aB (default:cf).cells.toArray 240);rw[K]at this;exact this
 have M:u.heap[w.heap.size+1]? =some (aB #[j,k] 372 (0,0)):=by
  rw[<-O];have:=a_ ((w.setCell ⟨p,0,none⟩ (av I L.length (l-1))).alloc (aB (default:cf).cells.toArray 240)) (aB #[j,k] 372);rw[show((w.setCell ⟨p,0,none⟩ (av I L.length (l-1))).alloc (aB (default:cf).cells.toArray 240)).heap.size=w.heap.size+1 by simp[K]]at this;exact this
 have hus:u.heap.size=w.heap.size+2:=by rw[<-O];simp[World.setCell]
 have t:=H3.o.same (gu.block b hb (by simp;omega));have A:=
  (HAD.o▸Seg.tail (x:=[an ar j,an ar k]) H2.o rfl:Seg w 372 2 (some gb) (av I L.length (l-1)) (uZ L) L.length).bH gu (λq P=>by simp;intro e;exact n2 (by rw[P,e]))
 have i:∀W:ae,W.heap[b]? =u.heap[b]? ->(Instr.lookup 263 (.map (some b)) (aG #[j,k]) false).run prog W=.ok (aG #[j,T,k,U,X,aA Z,a7,a8,aw a9,m,aA n]) W:=λW hW=>by
  have:=(t.same hW).look (iu (x:=j) (by omega) (by omega)) (iu (x:=k) (by omega) (by omega));rw[s]at this;exact this
 have hl0:=i u.drew rfl;have hl1:∀o,_:=λo=>i (u.alloc o).drew (fH _ _ _ t.lt)
 have⟨d0,d1⟩:=dk M;have k1:=aF J 1 rfl;have⟨HUP,HGU,HZ,HPU,H3U,MP⟩:=eC J gu hz M t A;have⟨HAT,HOF⟩:=aK f s;clear O J gu hz M t A i f s c0 f0 hc0 hc1;go_region_held3 (λw'=>w'.cell? ⟨p,1,none⟩=some (.map (some b))/\w'.cell? ⟨w.heap.size+1,0,none⟩=j/\w'.cell? ⟨w.heap.size+1,1,none⟩=k) (go_keep) (fail)
 all_goals
  go_upto_region 6 with fail
  generalize hV:World.drew _=x;have N:aQ ([]:List Nat) u x:=by rw[<-hV];exact((aQ.refl _ _).alloc _).drew
  have hrx:x.heap[w.heap.size+2]? =some (aB #[j,T,k,U,X,aA Z,a7,a8,aw a9,m,aA n] 240 (0,0)):=by
   rw[<-hV,<-hus];exact a_ _ _
  have y:=N.at HUP.o (by simp);have hxz:=N.at HZ.o (by simp);have hxq:=N.at HPU.o (by simp);have h3x:=H3U.o.same (N.block b H3U.o.lt (by simp));have⟨d,B,C,ht⟩:=(iL.same (w':=x.drew) h3x rfl).drop (iu (x:=j) (by omega) (by omega)) (iu (x:=k) (by omega) (by omega));have hdel':∀ty,(Builtin.delete_ #[263,372] ty #[.map (some b),aG #[j,k]]).run prog x.drew=.ok (aM #[]) d:=B
  have Q:=((aQ.refl _ x).drew).trans (aQ.nA ht.grown);have c:=Q.at hrx (by simp;omega);have a:=Q.at hxz (by simp;omega);have k2:=aF y 1 rfl;have⟨k3,k4⟩:=dk hxq;have hyl:=az y;have hl2:=az a;have hl3:=az c;have m0:=aF c 0 rfl;have z0:d.cell? w.heap.size=(0:Int):=by simp[World.cell?,a,cf.cells];rfl
  have y0:=bB a 0;have m1:=aF c 1 rfl;have z1:d.cell? ⟨w,1,none⟩=(0:Int):=by simp[World.cell?,a,cf.cells];rfl
  have y1:=bB a 1;have m2:=aF c 2 rfl;have z2:d.cell? ⟨w,2,none⟩=(0:Int):=by simp[World.cell?,a,cf.cells];rfl
  have y2:=bB a 2;have m3:=aF c 3 rfl;have z3:d.cell? ⟨w,3,none⟩=(0:Int):=by simp[World.cell?,a,cf.cells];rfl
  have y3:=bB a 3;have m4:=aF c 4 rfl;have z4:d.cell? ⟨w,4,none⟩=(0:Int):=by simp[World.cell?,a,cf.cells];rfl
  have y4:=bB a 4;have m5:=aF c 5 rfl;have z5:d.cell? ⟨w,5,none⟩=some (aA ByteArray.empty):=by simp[World.cell?,a,cf.cells];rfl
  have y5:=bB a 5;have m6:=aF c 6 rfl;have z6:d.cell? ⟨w,6,none⟩=(0:Int):=by simp[World.cell?,a,cf.cells];rfl
  have y6:=bB a 6;have m7:=aF c 7 rfl;have z7:d.cell? ⟨w,7,none⟩=(0:Int):=by simp[World.cell?,a,cf.cells];rfl
  have y7:=bB a 7;have m8:=aF c 8 rfl;have z8:d.cell? ⟨w,8,none⟩=some (aw false):=by simp[World.cell?,a,cf.cells];rfl
  have y8:=bB a 8;have m9:=aF c 9 rfl;have z9:d.cell? ⟨w,9,none⟩=(0:Int):=by simp[World.cell?,a,cf.cells];rfl
  have y9:=bB a 9;have m10:=aF c 10 rfl;have z10:d.cell? ⟨w,10,none⟩=some (aA ByteArray.empty):=by simp[World.cell?,a,cf.cells];rfl
  have y10:=bB a 10;have f:=HAT.o;have E:pA d p b (some gb) L/\aQ (p::b::(some gb).toList) w d:=by
   refine⟨⟨_,Q.at y (by simp;omega),?_,?_,n1,n2,n3,OK.o.tail⟩,(HGU.o.mono (by simp)).trans ((N.mono (by simp)).trans (Q.mono (by simp)))⟩
   .exact(MP.o.bH N (λq P=>by simp)).bH Q (λq P=>by simp;exactλe=>n3 (by rw[P,e]))
   .have:=C (gJ L) f.1 (λx' y' h=>f.2 x' y' h)
    rw[HOF.o]at this;simpa using this
  have⟨F,HZ2⟩:=aK E a;clear E f hV N hrx y hxz hxq h3x B C ht Q c a;go_region
  all_goals
   go_wp2;generalize hY:World.setCell (World.setCell (World.setCell (World.setCell (World.setCell (World.setCell (World.setCell (World.setCell (World.setCell (World.setCell (World.setCell d _ _) _ _) _ _) _ _) _ _) _ _) _ _) _ _) _ _) _ _) _ _=Y;have hYz:Y.heap[w.heap.size]? =some (aB (⟨j,T,k,U,X,Z,a7,a8,a9,m,n⟩:cf).cells.toArray 240 (0,0)):=by
    rw[<-hY];exact TK HZ2.o ⟨j,T,k,U,X,Z,a7,a8,a9,m,n⟩
   have gY:aQ [w.heap.size] d Y:=by
    rw[<-hY];exact Xc d w ⟨j,T,k,U,X,Z,a7,a8,a9,m,n⟩
   have gY2:=F.o.2.new gY (by simp);clear hY;refine fS (sy rfl rfl (Jx hYz)) rfl ?_;exact⟨rfl,F.o.1.bH gY (by simp;omega) (by simp;omega) (λq P=>by simp at P⊢;omega),gY2⟩
def D8(L:List cf)(k:Nat)(h:k<L.length):L.take (k+1)=L.take k++ [L.getD k ()]:=by
 rw[List.take_add_one,aU];simp[h]
structure tU(w:ae)(p b sb qb rb:Nat)(slot query:Int):Prop where
 q:w.heap[qb]? =some (aB #[p] 99 (0,0))
 s:w.heap[sb]? =some (aB #[an ar slot] 3 (0,0))
 r:w.heap[rb]? =some (aB #[an ar query] 3 (0,0))
 m:w.cell? ⟨p,1,none⟩=some (.map (some b))
 p:p<w
def tU.bH{w':ae}{p b sb qb d:Nat}{slot a:Int}{S:List Nat}(h:tU w p b sb qb d slot a)(c:aQ S w w')(e:p∉S)(g:sb∉S)(i:qb∉S)(j:d∉S):tU w' p b sb qb d slot a:=
 ⟨c.at h.q i,c.at h.s g,c.at h.r j,(cU (c.block p h.p e)).trans h.m,bP h.p c.size⟩
def D9(d c e g h:Int)(i:ByteArray)(j k:Int)(l:Bool)(a:Int)(b:ByteArray)(W:ae):
 (Instr.field 240 (aG #[d,c,e,g,h,aA i,j,k,aw l,(a:Int),aA b]) 1).run prog W=.ok c W:=by
 first|kernel_rfl|rfl
variable{f:Int->Int->Option cf}
def adD{p b sb qb E:Nat}{slot a:Int}{n:Nat}(h:tU w p b sb qb E slot a)(t:iL w b f n)(x y:Int)(v:lj x)(z:lj y)(r:cf)(F:f x y=some r)
 (A:¬(x=slot/\r.query<=a)):
 aj prog 227 #[aG #[x,y],sb,qb,E] w λe w'=>e=ax (aw false)/\ai w w w':=by
 obtain⟨G,B,H,I,J,K,L,M,N,c,d⟩:=r;have⟨u,k⟩:=aD (w.alloc (aB #[x,y] 372));have l:aQ ([]:List Nat) w u:=k▸(aQ.refl _ _).alloc _;have g:=h.bH l (by simp) (by simp) (by simp) (by simp);have i:=k▸a_ _ _;have j:=t.same (l.block b t.lt (by simp));have C:(Instr.lookup 263 (.map (some b)) (aG #[x,y]) false).run prog u.drew=.ok (aG #[G,B,H,I,J,aA K,L,M,aw N,c,aA d]) u.drew:=by
  have:=(iL.same (w':=u.drew) j rfl).look v z;rw[F]at this;exact this
 have O:=D9 G B H I J K L M N c d u.drew;have⟨U,V⟩:=dk i;have W:=aF g.s 0 rfl;have X:=aF g.q 0 rfl;have Y:=aF g.r 0 rfl;have Z:=g.m;have⟨P,Q⟩:=aK k l;clear k l g i j t F h;simp only at A;by_cases e:x=slot
 .have e2:decide (B<=a)=false:=by simp;omega
  have T:(x==slot)=true:=by simp[e]
  clear e A v z;go_in;go_upto_region 1 with fail
  rw[<-P.o];go_region
  all_goals
   go_wp2;go_ret;exact⟨rfl,(Q.o.drew).aJ⟩
 .have T:(x==slot)=false:=by simp[e]
  clear e A v z;go_in;go_upto_region 1 with fail
  rw[<-P.o];go_region
  all_goals
   go_wp2;go_ret;exact⟨rfl,(Q.o.drew).aJ⟩
def aae{p b sb qb V:Nat}{slot a:Int}{n:Nat}(h:tU w p b sb qb V slot a)(L:iL w b f n)(x y:Int)(M:lj x)(N:lj y)(r:cf)(O:f x y=some r)
 (t:x=slot) (z:r.query<=a):
 aj prog 227 #[aG #[x,y],sb,qb,V] w λe w'=>e=ax (aw true)/\
  (∀g:Int->Int->Option cf,g x y=none->(∀x' P,x'≠x∨P≠y->g x' P=f x' P)->iL w' b g (n-1))/\aQ [b] w w':=by
 obtain⟨W,Q,X,Y,Z,a6,a7,a8,a9,A,B⟩:=r;have⟨u,J⟩:=aD (w.alloc (aB #[x,y] 372));have K:aQ ([]:List Nat) w u:=J▸(aQ.refl _ _).alloc _;have l:=h.bH K (by simp) (by simp) (by simp) (by simp);have i:=J▸a_ _ _;have j:=L.same (K.block b L.lt (by simp));have k:(Instr.lookup 263 (.map (some b)) (aG #[x,y]) false).run prog u.drew=.ok (aG #[W,Q,X,Y,Z,aA a6,a7,a8,aw a9,A,aA B]) u.drew:=by
  have:=(iL.same (w':=u.drew) j rfl).look M N;rw[O]at this;exact this
 have anZ:=D9 W Q X Y Z a6 a7 a8 a9 A B u.drew;have⟨k0,k1⟩:=dk i;have k2:=aF l.s 0 rfl;have k3:=aF l.q 0 rfl;have k4:=aF l.r 0 rfl;have k5:=l.m;have⟨HU,GU,HD,C,T⟩:=iI J K l j i;simp only at z;have e2:decide (Q<=a)=true:=by simp;omega
 have e1:(x==slot)=true:=by simp[t]
 have⟨HR,HX,HY⟩:=aX O M N;clear J K l i j L h O t z M N;go_in;go_upto_region 1 with fail
 rw[<-HU.o];go_region
 all_goals
  go_upto_region 3 with fail
  generalize hV:World.drew _=v;have E:aQ ([]:List Nat) u v:=by rw[<-hV];exact(aQ.refl _ _).drew
  have F:=HD.o.bH E (by simp) (by simp) (by simp) (by simp);have G:=E.at T.o (by simp);have H:=C.o.same (E.block b C.o.lt (by simp));have⟨w2,d,c,ht⟩:=(iL.same (w':=v.drew) H rfl).drop HX.o HY.o;have U:∀ty,(Builtin.delete_ #[263,372] ty #[.map (some b),aG #[x,y]]).run prog v.drew=.ok (aM #[]) w2:=d
  have gT:=((GU.o.trans E).mono (by simp)).trans (((aQ.refl _ v).drew).trans (aQ.nA ht.grown));have⟨j0,j1⟩:=dk G;have j3:=aF F.q 0 rfl;have j5:=F.m;have q1:=F.p;have q2:=az F.q;rw[HR.o]at c;have⟨I,GT⟩:=aK c gT;clear hV E F G H d c ht gT k0 k1 k2 k3 k4 k5 k;go_region
  all_goals
   go_wp2;go_ret;exact⟨rfl,λg h1 h2=>by simpa using I.o g h1 h2,GT.o⟩
def jw(L:List cf)(slot query:Int):Nat:=L.findIdx (ku slot query)
def jL(L:List cf)(slot query:Int)(j:Nat):List cf:=dy (L.take j) slot query++L.drop j
def Qs(L:List cf)(s q:Int):jL L s q 0=L:=by simp[jL,dy]
def Jy(L:List cf)(s q:Int)(j:Nat):(jL L s q j).Sublist L:=by
 have:(jL L s q j).Sublist (L.take j++L.drop j):=List.Sublist.append List.filter_sublist (List.Sublist.refl _)
 rwa [mE]at this
variable{L:List cf}
def Cr.sub{M:List cf}(h:Cr L)(a:M.Sublist L):Cr M:=⟨λr b=>h.valid r (a.subset b),h.nodup.sublist a⟩
def D_(L:List cf)(s q:Int)(j:Nat)(h:j<L.length):jL L s q (j+1)=if ku s q (L.getD j ())then dy (L.take j) s q++L.drop (j+1)else jL L s q j:=by
 have e:L.drop j=L.getD j ()::L.drop (j+1):=by
  rw[List.drop_eq_getElem_cons h];simp[aU,h]
 unfold jL;rw[D8 L j h,e];unfold dy;rw[List.filter_append];by_cases a:ku s q (L.getD j ())=true
 .simp only[a,if_true]
  simp only[aU]at a;simp[a]
 .simp only[a,if_false]
  simp only[aU]at a;simp[a]
def Xe(L:List cf)(s q:Int)(j:Nat)(h:j<L.length):L.getD j ()∈jL L s q j:=by
 unfold jL;refine List.mem_append_right _ ?_;rw[List.mem_iff_getElem?];exact⟨0,by rw[List.getElem?_drop];simp[aU,h]⟩
def TL(g:Cr L)(s q:Int)(j:Nat)(h:j<L.length)(i:ku s q (L.getD j ())=true):
 gJ (jL L s q (j+1)) (L.getD j ()).slot (L.getD j ()).aR=none/\
  (∀x y,x≠(L.getD j ()).slot∨y≠(L.getD j ()).aR->gJ (jL L s q (j+1)) x y=gJ (jL L s q j) x y)/\(jL L s q (j+1)).length=(jL L s q j).length-1:=by
 have a:=g.sub (Jy L s q j);have e:jL L s q j=dy (L.take j) s q++L.getD j ()::L.drop (j+1):=by
  unfold jL;rw[List.drop_eq_getElem_cons h];simp[aU,h]
 rw[D_ L s q j h,aI i];rw[e]at a;generalize L.getD j ()=r at*;have d:=List.pairwise_append.1 a.nodup;refine⟨Ac.2 λz b f=> ?_,λx y c=> ?_,?_⟩
 .obtain b|b:=List.mem_append.1 b
  .have:=d.2.2 z b r (by simp)
   obtain h|h:=this
   .exact bL f h
   .exact h
  .have:=(List.pairwise_cons.1 d.2.1).1 z b
   obtain h|h:=this
   .exact bL f.symm h
   .exactλe=>h e.symm
 .rw[e]
  unfold gJ;rw[List.find?_append,List.find?_append,List.find?_cons];have:(decide (r.slot=x)&&decide (r.aR=y))=false:=by
   simp;intro e;obtain h|h:=c
   .exact bL e.symm h
   .exactλe=>h e.symm
  rw[this]
 .rw[e];simp
def fnV(sb qb rb:Nat):ah:=.func (Fn.func 227) #[] #[sb,qb,rb]
def Zg{w:ae}{p b sb qb n:Nat}{slot a:Int}(o:Cr L)(j:Nat)(l:j<L.length)(h:tU w p b sb qb n slot a)(k:iL w b (gJ (jL L slot a j)) (jL L slot a j).length):
 aj prog 227 #[aG #[an ar (L.getD j ()).slot,an ar (L.getD j ()).aR],sb,qb,n] w λe w'=>
  e=ax (aw (ku slot a (L.getD j ())))/\iL w' b (gJ (jL L slot a (j+1))) (jL L slot a (j+1)).length/\aQ [b] w w':=by
 have d:=Xe L slot a j l;have g:=o.sub (Jy L slot a j);have y:=(od _).1 (g.valid _ d);have i:=Tj g d;have q:lj (L.getD j ()).slot:=iu (by omega) (by omega);have r:lj (L.getD j ()).aR:=iu (by omega) (by omega);cases hg:ku slot a (L.getD j ())with
 |true=>
  have f:=TL o slot a j l hg;have c:=hg;unfold ku at c;simp only[cV,ei]at c;refine(aae h k _ _ q r _ i c.1 c.2).mono λe w' ⟨m,t,u⟩=>⟨m,?_,u⟩
  rw[f.2.2];exact t _ f.1 f.2.1
 |false=>
  have c:=hg;unfold ku at c;simp only[Bool.and_eq_false_iff,decide_eq_false_iff_not]at c;refine(adD h k _ _ q r _ i (by rintro⟨v,x⟩;rcases c with h|h;exact h v;exact h x)).mono λe w' ⟨m,s⟩=>⟨m,?_,aQ.of_below s⟩
  rw[D_ L slot a j l,aC (by rw[hg];simp)];exact k.same (s.block b k.lt)
def ah0{w:ae}{p b sb qb M:Nat}{g:Option Nat}{slot c:Int}{v:ah}(hL:Cr L)(N:Seg w 372 2 g v (uZ L) L.length)(h:tU w p b sb qb M slot c)(Y:iL w b (gJ L) L.length)
 (O:g≠some b) (hpb:p≠b) (hb:b<sb/\b<qb/\b<M):
 aj prog 231 #[v,fnV sb qb M] w λe w'=>
  e=ax (if jw L slot c<L.length then(jw L slot c:Int)else-1:Int)/\iL w' b (gJ (jL L slot c (jw L slot c+1))) (jL L slot c (jw L slot c+1)).length/\aQ [b] w w':=by
 obtain⟨b1,b2,b3⟩:=hb;have⟨HS,HD,HM⟩:=aX N h Y;obtain⟨a,cap,rfl,hn,P⟩:=N.len;unfold maxLen at P;generalize Z:(if jw L slot c<L.length then(jw L slot c:Int)else-1)=V;generalize F:jL L slot c (jw L slot c+1)=MM;have⟨HV,G⟩:=aK Z F;clear N h Y Z F;unfold fnV;go_in;go_wp2;go_loopw [8] (λQ wr=>∃k:Nat,Q=an ar k/\k<=L.length/\(∀i,i<k->ku slot c (L.getD i ())=false)/\iL wr b (gJ (jL L slot c k)) (jL L slot c k).length/\aQ [b] w wr) (λQ _=>L.length-(intOf Q).toNat)
 case atStart=>exact⟨0,rfl,bz _,λi f=>bL f (kG i),by rw[Qs];exact HM.o,aQ.refl _ _⟩
 case round=>
  obtain⟨k,rfl,hk,l,s,E⟩:=hrel;by_cases j:k<L.length
  .have⟨gb,off,cap',hge,H,hgl,z⟩:=(HS.o.bH E (λq hq=>by simp;exactλe=>O (by rw[hq,e]))).cell (by decide) k j
   simp only[bG,bK]at H;obtain⟨rfl,rfl⟩:=H;have A:=OV L k j;have T:=(z 0 _ (by decide) A.1).1;have hc1:=(z 1 _ (by decide) A.2).1;simp only[bM]at T;have r1:(0:Int)<=(k:Int):=by omega
   have r2:(k:Int)<(L.length:Int):=by omega
   have m:=Zg hL k j (HD.o.bH E (by simp;omega) (by simp;omega) (by simp;omega) (by simp;omega)) s;have u:ku slot c (L.getD k ())=true->jw L slot c=k:=λn=>by
    unfold jw;rw[List.findIdx_eq j];refine⟨by simpa[aU,j]using n,λi f=> ?_⟩;have:=l i f;have U:i<L.length:=by omega
    simpa[aU,U]using this
   have⟨I,W,X⟩:=aX u l E;cases n:ku slot c (L.getD k ())
   all_goals
    rw[n]at m;have⟨J,K⟩:=aK m n;generalize(L.getD k ()).slot=x at*;generalize(L.getD k ()).aR=y at*;clear m n u l E s z A;go_wp2_with fail
    refine aN J.o ?_;rintro w2 ⟨m2,g2⟩;have⟨M2,G2⟩:=aK m2 (X.o.trans g2);clear m2 g2
   .go_wp2
    go_roundw
    case rel=>
     refine⟨k+1,by simp,by omega,λi f=> ?_,M2.o,G2.o⟩;by_cases e:i=k
     .rw[e];exact K.o
     .exact W.o i (by omega)
    case measure=>simp[intOf];omega
   .have f:=I.o K.o
    have t:=HV.o;have d:=G.o;rw[f]at t d;rw[aI j]at t;have⟨B,C⟩:=aK t d;clear f t d;go_wp2;go_ret;rw[<-B.o,<-C.o];exact⟨rfl,M2.o,G2.o⟩
  .obtain rfl:k=L.length:=by omega
   have f:jw L slot c=L.length:=by
    unfold jw;rw[List.findIdx_eq_length];intro r hr;obtain⟨i,f,rfl⟩:=lG hr;have:=l i f;simpa[aU,f]using this
   have t:=HV.o;have d:=G.o;rw[f]at t d;rw[aC (Nat.lt_irrefl _)]at t;have e2:jL L slot c (L.length+1)=jL L slot c L.length:=by
    unfold jL;rw[jY (Nat.le_succ _),jY (aP _),List.drop_of_length_le (Nat.le_succ _),List.drop_of_length_le (aP _)]
   rw[e2]at d;have⟨B,C,MK,X⟩:=c_ t d s E;clear f t d s E l e2;go_wp2;go_ret;rw[<-B.o,<-C.o];exact⟨rfl,MK.o,X.o⟩
def MQ(w:ae):(zeroValue 372).run prog w=.ok (aG #[an ar 0,an ar 0]) w:=by kernel_rfl
def xK(w:ae)(g a n c:Nat)(s:0<n)(f:Array ah)(h:w.heap[g]? =some (aB f 372 (0,0)))(t:a+n*2<=f.size)(o:TypeId):
 ∃b:List ah,b.length=n*2/\(Builtin.clear_ #[264] o #[av (some ⟨g,a,none⟩) n c]).run prog w=.ok (aM #[]) (w.setCells g a b):=by
 have⟨b,d⟩:=aD ((Builtin.zeroCells #[Value.int .i64 0,Value.int .i64 0] n).toList);have p:b.length=n*2:=by rw[d];simp[Builtin.zeroCells]
 have q:∀v∈b,v.oneCell'=true:=by
  intro v l;rw[d]at l;simp only[Builtin.zeroCells,Array.toList_map,SM]at l;obtain⟨i,_,rfl⟩:=l;have:i%2=0∨i%2=1:=by omega
  rcases this with e|e<;>simp[e]<;>rfl
 have k:=run_storeCells_cells (P:=prog) g a b 0 w (λj r=>by
  simp only[World.cell?,h];rw[Array.getElem?_eq_getElem (by omega)];rfl) (λj r=>bB h _) q
 rw[bM]at k;refine⟨b,p,?_⟩;obtain⟨m,rfl⟩:∃m,n=m+1:=⟨n-1,by omega⟩
 simp only[Builtin.clear_];simp[run_underlying underlying264,MQ,Result.andThen,Value.cells,<-d,k]
def wV(w:ae)(g off size:Nat)(K L:List cf)(k:Nat):Prop:=
 ∃cur,w.heap[g]? =some (aB cur 372 (0,0))/\cur.size=size/\(∀m,m<K.length*2->cur[off+m]? =(uZ K)[m]?)/\∀m,k*2<=m->m<L.length*2->cur[off+m]? =(uZ L)[m]?
variable{K:List cf}
def TM{g a size:Nat}{k:Nat}(h:wV w g a size K L k)(q:K.length<=k)(s:k<L.length)(c:a+L.length*2<=size)(r:cf):
 wV ((w.setCell ⟨g,a+K.length*2,none⟩ r.slot).setCell ⟨g,a+K.length*2+1,none⟩ r.aR) g a size (K++ [r]) L (k+1):=by
 obtain⟨d,e,f,i,j⟩:=h;refine⟨_,aE (aE e _) _,by simpa using f,λm l=> ?_,λm n b=> ?_⟩
 .simp at l
  rw[OU];simp only[pB,Array.size_setIfInBounds];by_cases o:m=K.length*2+1
  .subst o
   rw[aI (by omega),aI (by omega),g_ (by rw[pL];omega),pL];simp
  .rw[aC (by omega)]
   by_cases p:m=K.length*2
   .subst p
    rw[aI rfl,aI (by omega),g_ (by rw[pL];omega),pL];simp
   .rw[aC (by omega),i m (by omega),gZ (by rw[pL];omega)]
 .simp only[pB,Array.size_setIfInBounds]
  rw[aC (by omega),aC (by omega)];exact j m (by omega) b
def TN{g a size:Nat}{k:Nat}(h:wV w g a size K L k):wV w g a size K L (k+1):=by
 obtain⟨b,d,e,f,i⟩:=h;exact⟨b,d,e,f,λm j c=>i m (by omega) c⟩
def FK{w':ae}{g a size:Nat}{k:Nat}{S:List Nat}(h:wV w g a size K L k)(c:aQ S w w')(d:g∉S):wV w' g a size K L k:=by
 obtain⟨b,e,f⟩:=h;exact⟨b,c.at e d,f⟩
def Ea(L:List cf)(s q:Int)(k:Nat)(h:k<L.length):dy (L.take (k+1)) s q=if ku s q (L.getD k ())then dy (L.take k) s q else dy (L.take k) s q++ [L.getD k ()]:=by
 rw[D8 L k h];unfold dy;rw[List.filter_append];cases hg:ku s q (L.getD k ())<;>simp only[aU]at hg<;>simp[hg]
def TO(L:List cf)(s q:Int)(h:jw L s q<L.length):dy (L.take (jw L s q+1)) s q=L.take (jw L s q):=by
 have a:∀r∈L.take (jw L s q),ku s q r=false:=λr b=>by
  obtain⟨i,d,rfl⟩:=lG b;rw[dw]at d;have c:i<jw L s q:=by omega
  have:=List.not_of_lt_findIdx (show i<L.findIdx (ku s q)from c);simpa using this
 have e:ku s q (L.getD (jw L s q) ())=true:=by
  have:=List.findIdx_getElem (w:=h);rw[aU,jZ h,Option.getD_some];exact this
 rw[Ea L s q _ h,aI e];unfold dy;rw[List.filter_eq_self];intro r b;simp[a r b]
def Qt(L:List cf)(s q:Int)(h:¬jw L s q<L.length):dy L s q=L:=by
 have a:jw L s q=L.length:=by
  have:=List.findIdx_le_length (p:=ku s q) (xs:=L);unfold jw at*;omega
 unfold jw at a;rw[List.findIdx_eq_length]at a;unfold dy;rw[List.filter_eq_self];intro r b;simp[a r b]
def OY(L:List cf)(s q:Int)(k:Nat)(h:L.length<=k):jL L s q k=dy L s q:=by
 unfold jL;rw[jY h,List.drop_of_length_le h,List.append_nil]
def adE{p b sb qb rb d:Nat}{slot a:Int}{v:ah}(hL:Cr L)(hs:Seg w 372 2 (some d) v (uZ L) L.length)(h:tU w p b sb qb rb slot a)(hm:iL w b (gJ L) L.length)
 (hgb:d≠b) (hgp:d≠p) (hg2:d<sb/\d<qb/\d<rb) (hpb:p≠b) (hb:b<sb/\b<qb/\b<rb):
 aj prog 226 #[v,fnV sb qb rb] w λe w'=>∃v',e=ax v'/\
  (Seg w' 372 2 (some d) v' (uZ (dy L slot a)) (dy L slot a).length/\iL w' b (gJ (dy L slot a)) (dy L slot a).length)/\aQ [b,d] w w':=by
 have hsm:=hL.small;have l:=ah0 hL hs h hm (by simp;omega) hpb hb;have⟨HS,HD⟩:=aK hs h;obtain⟨b1,b2,b3⟩:=hb;obtain⟨g1,g2,g3⟩:=hg2;obtain⟨hcl,⟨h0,_⟩|⟨gb',c,n,E,N,rfl,hh,hn,hmx,hsz,O⟩⟩:=hs
 .cases h0
 simp only[bA]at N;subst N;unfold maxLen at hmx;by_cases hi:jw L slot a<L.length
 .rw[aI hi]at l
  have⟨A,HH,HC⟩:=aX l hh O;have P:=TO L slot a hi;unfold fnV at*;go_in;go_wp2_with fail
  refine aN A.o ?_;rintro u ⟨mu,Q⟩;have ne1:(((jw L slot a:Nat):Int)== -1)=false:=by simp
  have g:wV u d c E.size (dy (L.take (jw L slot a+1)) slot a) L (jw L slot a+1):=by
   rw[P];refine⟨E,Q.at HH.o (by simp;omega),rfl,λm hm=> ?_,λm _ hm2=>HC.o m hm2⟩;have t:(L.take (jw L slot a)).length=jw L slot a:=by simp;omega
   rw[t]at hm;rw[HC.o m (by omega)];have e:uZ L=uZ (L.take (jw L slot a))++uZ (L.drop (jw L slot a)):=by
    unfold uZ;rw[<-fQ,mE]
   rw[e,gZ (by rw[pL,t];exact hm)]
  have hkl:(dy (L.take (jw L slot a+1)) slot a).length=jw L slot a:=by rw[P];simp;omega
  have⟨MU,GU,T,U⟩:=c_ mu (Q.mono (S':=[b,d]) (by simp)) g hkl;go_wp2;go_loopw [5,6] (λv5 v6 wr=>∃k:Nat,v6=an ar k/\v5=an ar (dy (L.take k) slot a).length/\k<=L.length/\jw L slot a+1<=k/\(dy (L.take k) slot a).length<k/\wV wr d c E.size (dy (L.take k) slot a) L k/\
   iL wr b (gJ (jL L slot a k)) (jL L slot a k).length/\aQ [b,d] w wr) (λ_ v6 _=>L.length-(intOf v6).toNat)
  case atStart=>exact⟨jw L slot a+1,by simp,by rw[U.o],by omega,aP _,by rw[U.o];omega,T.o,MU.o,GU.o⟩
  case round=>
   obtain⟨k,rfl,rfl,hk,hik,hkk,g,x,hc⟩:=hrel;by_cases t:k<L.length
   .have⟨B,V,w2',w3,w4⟩:=id g
    have W:=OV L k t;have hc0:wr.cell? ⟨d,c+k*2,none⟩=some (an ar (L.getD k ()).slot):=by
     simp only[World.cell?,V];have:=w4 (k*2) (aP _) (by omega);rw[this];exact W.1
    have hc1:wr.cell? ⟨d,c+k*2+1,none⟩=some (an ar (L.getD k ()).aR):=by
     simp only[World.cell?,V];have:=w4 (k*2+1) (by omega) (by omega);rw[Nat.add_assoc,this];exact W.2
    have r1:(0:Int)<=(k:Int):=by omega
    have r2:(k:Int)<(L.length:Int):=by omega
    have⟨x2,H⟩:=aD (wr.alloc (aB #[an ar (L.getD k ()).slot,an ar (L.getD k ()).aR] 372));have gx:aQ ([]:List Nat) wr x2:=H▸(aQ.refl _ _).alloc _;have hpx:=H▸a_ _ _;have C:=Zg hL k t (HD.o.bH (hc.trans (gx.mono (by simp))) (by simp;omega) (by simp;omega) (by simp;omega) (by simp;omega)) (x.same (gx.block b x.lt (by simp)));have hrx:=FK g gx (by simp);have i:=Ea L slot a k t;have hwb:=x.lt;have⟨X,Y,HPX,Z⟩:=c_ hrx H hpx (hc.trans (gx.mono (by simp)));have hcap:(dy (L.take k) slot a).length*2+1<L.length*2:=by omega
    cases hgk:ku slot a (L.getD k ())
    all_goals
     rw[hgk]at C i;have⟨G,HKS⟩:=aK C i;clear C i hgk
    .generalize hrr:L.getD k ()=r at*
     go_wp2_with fail
     rw[<-Y.o];refine aN G.o ?_;rintro y ⟨my,M⟩;have F:=FK X.o M (by simp;omega);have⟨an0,c1,c2,c3,c4⟩:=id F;have hpy:=M.at HPX.o (by simp;omega);have⟨j0,j1⟩:=dk hpy;have hcs:c+L.length*2<=E.size:=by
      have:L.length*2<=n*2:=Nat.mul_le_mul_right _ hn;omega
     have e0:∃z,y.cell? ⟨d,c+(dy (L.take k) slot a).length*2,none⟩=some z:=by
      simp only[World.cell?,c1];exact⟨_,by rw[Array.getElem?_eq_getElem (by omega)];rfl⟩
     have e1:∃z,y.cell? ⟨d,c+(dy (L.take k) slot a).length*2+1,none⟩=some z:=by
      simp only[World.cell?,c1];exact⟨_,by rw[Array.getElem?_eq_getElem (by omega)];rfl⟩
     obtain⟨z0,e0⟩:=e0;obtain⟨z1,e1⟩:=e1;have f0:y.frozen? ⟨d,c+(dy (L.take k) slot a).length*2,none⟩=false:=by simp[World.frozen?,c1]
     have f1:y.frozen? ⟨d,c+(dy (L.take k) slot a).length*2+1,none⟩=false:=by simp[World.frozen?,c1]
     have r3:(0:Int)<=((dy (L.take k) slot a).length:Int):=by omega
     have r4:((dy (L.take k) slot a).length:Int)<(L.length:Int):=by omega
     have hfin:=
      TM F (by omega) t hcs r
     have s:aQ [d] y ((y.setCell ⟨d,c+(dy (L.take k) slot a).length*2,none⟩ r.slot).setCell ⟨d,c+(dy (L.take k) slot a).length*2+1,none⟩ r.aR):=((aQ.refl _ _).setCell _ (by simp) _).setCell _ (by simp) _;have ah1:=my.same (s.block b my.lt (by simp;omega));have⟨ke,ah2,ah3⟩:=aX hfin ah1 ((Z.o.trans (M.mono (by simp))).trans (s.mono (by simp)));have i:=HKS.o;simp only[oA,if_false]at i;have f:=au i;generalize I:(dy (L.take k) slot a)=KK at*;go_wp2;exact⟨⟨k+1,by simp,by rw[f.o];simp,by omega,by omega,by rw[f.o];simp;omega,by rw[f.o];exact ke.o,ah2.o,ah3.o⟩,by simp[intOf];omega⟩
    .generalize hrr:L.getD k ()=r at*
     go_wp2_with fail
     rw[<-Y.o];refine aN G.o ?_;rintro y ⟨my,M⟩;have F:=TN (FK X.o M (by simp;omega));have i:=HKS.o;simp only[if_true]at i;have⟨f,HRY,MY,GY⟩:=c_ i F my (Z.o.trans (M.mono (by simp)));generalize I:(dy (L.take k) slot a)=KK at*;go_wp2;exact⟨⟨k+1,by simp,by rw[f.o],by omega,by omega,by rw[f.o];omega,by rw[f.o];exact HRY.o,MY.o,GY.o⟩,by simp[intOf];omega⟩
   .obtain rfl:k=L.length:=by omega
    rw[OY L slot a _ (aP _)]at x;rw[jY (aP _)]at g hkk⊢;have⟨B,V,w2',w3,w4⟩:=id g;generalize I:dy L slot a=KK at*;have hcs:c+L.length*2<=B.size:=by
     have:L.length*2<=n*2:=Nat.mul_le_mul_right _ hn;omega
    have⟨vs,hvl,Qj⟩:=xK wr d (c+KK.length*2) (L.length-KK.length) (n-KK.length) (by omega) B V (by omega) 0;have J:∀ty,(Builtin.clear_ #[264] ty #[av (some ⟨d,c+KK.length*2,none⟩) (L.length-KK.length) (n-KK.length)]).run prog wr=.ok (aM #[]) (wr.setCells d (c+KK.length*2) vs):=λty=>Qj
    have s:aQ [d] wr (wr.setCells d (c+KK.length*2) vs):=kI _ _ _ _;have hne:¬n=KK.length:=by omega
    have r3:(0:Int)<=(KK.length:Int):=by omega
    have r4:(KK.length:Int)<=(L.length:Int):=by omega
    have r5:(KK.length:Int)<=(n:Int):=by omega
    have hseg:Seg (wr.setCells d (c+KK.length*2) vs) 372 2 (some d) (av (some ⟨d,c,none⟩) KK.length n) (uZ KK) KK.length:=by
     refine⟨pL _,.inr ⟨d,c,n,_,rfl,rfl,iB _ _ _ _ _ _ _ V,by omega,by unfold maxLen;omega,by rw[j9];omega,λj hj=> ?_⟩⟩;rw[oP _ _ _ _ (by omega),aC (by omega)];exact w3 j hj
    have⟨MP,HMK,MD⟩:=aX hseg (x.same (s.block b x.lt (by simp;omega))) (hc.trans (s.mono (by simp)));go_wp2_with (simp only[J]);go_ret;rw[I];exact⟨_,rfl,⟨MP.o,HMK.o⟩,MD.o⟩
 .rw[aC hi]at l
  rw[OY L slot a _ (by have:=List.findIdx_le_length (p:=ku slot a) (xs:=L);unfold jw at*;omega)]at l;have A:=au l;have hkn:=Qt L slot a hi;have HKN:=au hkn;unfold fnV at*;go_in;go_wp2_with fail
  refine aN A.o ?_;rintro u ⟨mu,Q⟩;have hs2:=HS.o.bH Q (λq hq=>by simp at hq⊢;omega);have⟨MU,GU,HS2⟩:=aX mu Q hs2;go_wp2;go_ret;refine⟨_,rfl,⟨?_,MU.o⟩,GU.o.mono (by simp)⟩;rw[HKN.o];exact HS2.o
def adH{w:ae}{p b:Nat}{g:Option Nat}{L:List cf}(h:pA w p b g L)(slot c:Int):
 aj prog 222 #[p,slot,c] w λe w'=>e=ax ((L.length:Int)-(dy L slot c).length:Int)/\
  pA w' p b g (dy L slot c)/\aQ (p::b::g.toList) w w':=by
 have H:=au h;have y:=h.choose_spec.2.2.2.2.2.2;have hsm:=y.small;have hkl:(dy L slot c).length<=L.length:=List.length_filter_le _ _;have hpw:=az h.choose_spec.1;have hbw:=h.choose_spec.2.2.1.lt;have K:=h.choose_spec.2.1.lt;have k:=h.choose_spec.2.2.2.1;have⟨u,z⟩:=aD (((w.alloc (aB #[p] 99)).alloc (aB #[slot] 3)).alloc (aB #[c] 3));have C:aQ ([]:List Nat) w u:=z▸(((aQ.refl _ _).alloc _).alloc _).alloc _;have A:=h.bH C (by simp) (by simp) (by simp);have l:=W8 A;have u0:u.heap[w.heap.size]? =some (aB #[p] 99 (0,0)):=by
  rw[z,fH _ _ _ (by simp;omega),fH _ _ _ (by simp)];exact a_ _ _
 have u1:u.heap[w.heap.size+1]? =some (aB #[slot] 3 (0,0)):=by
  rw[z,fH _ _ _ (by simp)];have:=a_ (w.alloc (aB #[p] 99)) (aB #[slot] 3);simpa using this
 have u2:u.heap[w.heap.size+2]? =some (aB #[c] 3 (0,0)):=by
  rw[z];have:=a_ ((w.alloc (aB #[p] 99)).alloc (aB #[slot] 3)) (aB #[c] 3);simpa using this
 have⟨T,GU,HQ,U⟩:=c_ z C A l;by_cases V:L.length=0
 .have M:=List.length_eq_zero_iff.1 V
  subst M;have N:(((([]:List cf).length:Nat):Int)==0)=true:=by simp
  clear z C A l u0 u1 u2 h;go_in;go_wp2_with fail
  rw[<-T.o];refine aH U.o ?_;go_wp2;go_ret;exact⟨by simp[dy],by simpa[dy]using HQ.o,GU.o.mono (by simp)⟩
 .have⟨v,B,J,W,_,E,X,_⟩:=id A
  have N:((L.length:Int)==0)=false:=by rw[j7];omega
  obtain⟨m,O⟩:∃m,g=some m:=by
   obtain⟨_,⟨_,_,h0⟩|⟨m,_,_,_,e,_⟩⟩:=J
   .exact bL h0 V
   .exact⟨m,e⟩
  subst O;have hgl:=K m rfl;have t:aQ ([]:List Nat) u u.drew:=(aQ.refl _ u).drew;have Y:tU u.drew p b (w.heap.size+1) w (w.heap.size+1+1) slot c:=
   ⟨t.at u0 (by simp),t.at u1 (by simp),t.at u2 (by simp),by show u.cell? _=_;simp[World.cell?,B],az B⟩
  have n:=adE y (J.bH t (by simp)) Y (iL.same (w':=u.drew) W rfl) (λe=>X (by rw[e])) (λe=>E (by rw[e])) (by omega) k (by omega);unfold fnV at n;obtain⟨a,P,rfl,_⟩:=J.len;have c0:=aF B 0 rfl;have c1:=aF u0 0 rfl;have Z:∀(x:ae) (F:ah),Seg x 372 2 (some m) F (uZ (dy L slot c)) (dy L slot c).length->aQ [b,m] u.drew x->
   x.cell? w.heap.size=p/\x.cell? p=some (av a L.length P)/\x.frozen? ⟨p,0,none⟩=false/\p<x/\w.heap.size<x.heap.size/\
    ∃j d,F=av j (dy L slot c).length d:=λx F i f=>by
   have G:=f.at (t.at u0 (by simp)) (by simp;omega);have r:=f.at (t.at B (by simp)) (by simp;exact⟨k,λe=>E (by rw[e])⟩);have⟨j,d,e2,_⟩:=i.len;exact⟨aF G _ rfl,aF r _ rfl,bB r _,az r,az G,j,d,e2⟩
  have hF:∀(x:ae) (j:Option Addr) (d:Nat),Seg x 372 2 (some m) (av j (dy L slot c).length d) (uZ (dy L slot c)) (dy L slot c).length->iL x b (gJ (dy L slot c)) (dy L slot c).length->aQ [b,m] u.drew x->
   pA (x.setCell ⟨p,0,none⟩ (av j (dy L slot c).length d)) p b (some m) (dy L slot c)/\aQ (p::b::(some m).toList) w (x.setCell ⟨p,0,none⟩ (av j (dy L slot c).length d)):=λx j d i s f=>by
   have r:=f.at (t.at B (by simp)) (by simp;exact⟨k,λe=>E (by rw[e])⟩);have Q:aQ [p] x (x.setCell ⟨p,0,none⟩ (av j (dy L slot c).length d)):=(aQ.refl _ _).setCell _ (by simp) _;refine⟨⟨_,by rw[aE r];rfl,i.bH Q (λq A=>by simp;intro e;exact E (by rw[A,e])),s.same (Q.block b s.lt (by simp;exactλe=>k e.symm)),k,E,X,y.filter _⟩,?_⟩;exact(((C.trans t).mono (by simp)).trans (f.mono (by simp))).trans (Q.mono (by simp))
  have⟨HK,HF,I⟩:=aX Z hF n;clear z C A l u1 u2 h B J W Y n t Z hF;go_in;go_wp2_with fail
  rw[<-T.o];refine aH U.o ?_;go_upto_region 4 with fail
  go_region_with ((go_at_call 226;(refine(I.o).mono ?_);rintro e x ⟨F,rfl,⟨i,s⟩,f⟩;obtain⟨j0,j1,j2,j3,j4,j,d,rfl⟩:=HK.o x F i f))
  all_goals
   go_wp2_with fail
   refine aH (W8 (HF.o x j d i s f).1) ?_;go_wp2;go_ret;exact⟨rfl,HF.o x j d i s f⟩
def QIn(B:Nat)(w:ae)(p b:Nat)(L:List cf):Prop:=∃g,pA w p b g L/\B<=p/\B<=b/\(∀x,g=some x->B<=x)/\B<=w
def QIn.ok{B:Nat}{w:ae}{p b:Nat}{L:List cf}(h:QIn B w p b L):Cr L:=by
 obtain⟨g,⟨v,_,_,_,_,_,_,a⟩,_⟩:=h;exact a
def QIn.below{B:Nat}{w w':ae}{p b:Nat}{L:List cf}(h:QIn B w p b L)(a:ai w w w'):QIn B w' p b L:=by
 obtain⟨g,c,d,e,f,i⟩:=h;exact⟨g,c.bH (aQ.of_below (S:=[]) a) (by simp) (by simp) (by simp),d,e,f,bD i a.size⟩
end Go.Proofs.YtjpnlfpompnpkaaGreat
