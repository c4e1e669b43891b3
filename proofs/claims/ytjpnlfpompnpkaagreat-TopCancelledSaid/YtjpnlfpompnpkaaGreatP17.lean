import Derived.Test.YtjpnlfpompnpkaaGreatP14
namespace Go.Proofs.YtjpnlfpompnpkaaGreat
open Go.RowKit Go.Proofs.Tryz
open Go.Value renaming int->an,slice->av,bool->aw,string->aA,tuple->aM,pointer->aL,agg->aG
open Go.IntKind renaming i64->ar
open Go.Ending renaming returned->ax
open Go.Obj renaming cells->aB
open Go renaming World->ae,Value->ah,Calls->aj,Ending->ak
open Go.RowKit renaming Below->ai
set_option maxRecDepth 100000
set_option linter.all false
set_option maxHeartbeats 2000000
open Go.ChangeMaps mX
variable{P:Tg->Prop}{τ br:cj}{w w':ae}
def ux(cN:List jB)(m':jB):List jB:=cN.map λx=>if x.v.s=m'.v.s then m' else x
def sD.put(v:sD)(now:List Int):sD:=⟨v.s,v.good,now⟩
def jB.put(m:jB)(nv:ah)(nb:Option Nat)(now:List Int):jB:=⟨m.v.put now,m.a,m.gv,nv,m.gb,nb⟩
def Yi(cN:List jB)(m':jB):(ux cN m').map (λm=>m.v.s)=cN.map λm=>m.v.s:=by
 unfold ux;rw[fT];refine jh λx _=> ?_
 simp only[Function.comp_apply];split
 .rename_i h;exact h.symm
 .rfl
variable{m:jB}
def Yj{cN:List jB}(f:(cN.map λm=>m.v.s).Nodup){m':jB}(o:m∈cN)(q:m'.v.s=m.v.s)(r:m'.a=m.a):Cx (ux cN m')=Cx cN:=by
 funext s;unfold Cx ux
 induction cN with
 |nil=>rfl
 |cons x l t=>
  rw[gi,ji]at f;rw[gi];by_cases d:x.v.s=m'.v.s
  .have g:x=m:=by
    obtain h|h:=List.mem_cons.1 o
    .exact h.symm
    .exact bL (List.mem_map.2 ⟨m,h,by rw[<-q,<-d]⟩) f.1
   rw[aI d];have j:l.map (λx=>if x.v.s=m'.v.s then m' else x)=l:=by
    conv=>rhs;rw[<-List.map_id l]
    refine jh λy u=> ?_
    rw[aC]
    .rfl
    .intro e
     exact f.1 (List.mem_map.2 ⟨y,u,by rw[e,<-d]⟩)
   rw[j];subst g;by_cases c:x.v.s=s
   .have k:m'.v.s=s:=by rw[<-d,c]
    rw[List.find?_cons_of_pos (by simpa using k),List.find?_cons_of_pos (by simpa using c)];simp[r]
   .have k:¬m'.v.s=s:=by rw[<-d];exact c
    rw[jg (by simpa using k),jg (by simpa using c)]
  .rw[aC d]
   have n:m∈l:=by
    obtain h|h:=List.mem_cons.1 o
    .exact bL (by rw[<-h,q]) d
    .exact h
   by_cases c:x.v.s=s
   .simp[c]
   .rw[jg (by simpa using c),jg (by simpa using c)]
    exact t f.2 n
def Yk{cN:List jB}(d:(cN.map λm=>m.v.s).Nodup){m':jB}(j:m∈cN)(k:m'.v.s=m.v.s)(f:sD->sD)(q:m'.v=f m.v):(ux cN m').map jB.v=(cN.map jB.v).map λv=>if v.s=m.v.s then f v else v:=by
 unfold ux;rw[fT,fT];refine jh λx n=> ?_
 simp only[Function.comp_apply];by_cases h:x.v.s=m.v.s
 .have e:x=m:=by
   induction cN with
   |nil=>simp at n
   |cons y l r=>
    rw[gi,ji]at d;obtain o|c:=List.mem_cons.1 n
    .obtain g|a:=List.mem_cons.1 j
     .rw[o,g]
     .exact bL (List.mem_map.2 ⟨m,a,by rw[<-o,h]⟩) d.1
    .obtain g|a:=List.mem_cons.1 j
     .exact bL (List.mem_map.2 ⟨x,c,by rw[<-g,h]⟩) d.1
     .exact r d.2 a c
  rw[aI (by rw[k];exact h),aI h,q,e]
 .rw[aC (by rw[k];exact h),aC h]
variable{i p b:Nat}
def kV.put{life:Int}{cN:List jB}(h:kV τ w i p b life cN)(K:m∈cN){y z:ae}(j:ai w w y){nv:ah}{nb:Option Nat}{now:List Int}(o:aQ (m.a::nb.toList) y z)(B:z.heap[m.a]? =some (aB #[m.gv,nv] 211 (0,0)))
 (M:Seg z 5 1 nb nv (lJ now) now.length) (l:∀x,nb=some x->w.heap.size<=x) (C:Kc (m.v.put now)):
 kV (eP τ w .keep) z i p b life (ux cN (m.put nv nb now))/\Fr (λt=>∃s,t=.FR i s) τ (eP τ w .keep) w z:=by
 have f:=h.r m K;have N:=az f.c;have hF:Fr (λt=>∃s,t=Tg.FR i s) τ (eP τ w .keep) w z:=by
  refine Fr.dC (S:=[m.a]) ?_ (λx d=>by rw[List.mem_singleton.1 d];exact⟨_,f.ta⟩) .keep;refine⟨o.os.trans j.os,o.tape.trans j.tape,o.output.trans j.output,bD j.size o.size,λk L O=>(o.block k (bP L j.size) ?_).trans (j.block k L)⟩;simp only[bQ,eZ,not_or];exact⟨by simpa using O,λe=>by have:=l k e;omega⟩
 refine⟨⟨hF.at h.c (by rw[h.tp];simp),?_,λx d=> ?_,by rw[Yi];exact h.nd,?_,?_,h.l0,h.l1⟩,hF⟩
 .have A:(ux cN (m.put nv nb now)).length=cN.length:=by simp[ux]
  rw[Yj (m':=m.put nv nb now) h.nd K rfl rfl,A];exact h.m.same (hF.block b h.m.lt (by rw[h.tb];simp))
 .have⟨E,F,e⟩:=List.mem_map.1 d
  split at e
  .subst e
   have⟨G,H⟩:=f.g.fr hF f.tg (by simp);exact⟨B,G,M,(dZ N).trans f.ta,H,λq Q=>d_ (l q Q),C⟩
  .subst e
   rename_i I;have d:=h.r E F;have⟨G,H⟩:=d.g.fr hF d.tg (by simp);have⟨T,U⟩:=d.n.fr hF d.tn (by simp);refine⟨?_,G,T,(dZ (az d.c)).trans d.ta,H,U,d.ok⟩;have u:E.a≠m.a:=λe=>by
    have J:=d.ta;rw[e,f.ta]at J;simp only[Tg.FR.injEq,bK]at J;exact I J.symm
   have A:=az d.c;rw[o.block E.a (bP A j.size) (by simp only[bQ,eZ,not_or];exact⟨u,λe=>by have:=l _ e;omega⟩),j.block _ A];exact d.c
 .exact(dZ (az h.c)).trans h.tp
 .exact(dZ h.m.lt).trans h.tb
def uy(i p b:Nat)(life:Int)(cN:List jB)(f:sD->sD)(τ:cj)(w:ae)(e:ak)(w':ae):Prop:=
 ∃n afs,e=ax (an ar n)/\kV (eP τ w .keep) w' i p b life afs/\afs.map jB.v=(cN.map jB.v).map f/\Fr (λt=>∃s,t=.FR i s) τ (eP τ w .keep) w w'
def Kr{life:Int}{cN:List jB}(h:kV τ w i p b life cN){s:Int}(a:Cx cN s=none)(f:sD->sD)(n:Int):uy i p b life cN (λv=>if v.s=s then f v else v) τ w (ax (n:Int)) w:=by
 refine⟨n,cN,rfl,?_,?_,Fr.of_below (aO _ _) _ _ _⟩
 .exact h.fr (Fr.of_below (aO _ _) (λ_=>False) _ _) (λ_ _ h=>h) (λh=>h)
 .rw[fT]
  refine(jh λx c=> ?_);simp only[Function.comp_apply];rw[aC];intro e;have:=UI h.nd c;rw[e,a]at this;cases this
def Pw{life:Int}{cN:List jB}(h:kV τ w i p b life cN)(g:m∈cN){y z:ae}(j:ai w w y){nv:ah}{nb:Option Nat}{now:List Int}(k:aQ (m.a::nb.toList) y z)(c:z.heap[m.a]? =some (aB #[m.gv,nv] 211 (0,0)))
 (l:Seg z 5 1 nb nv (lJ now) now.length) (d:∀x,nb=some x->w.heap.size<=x) (e:Kc (m.v.put now)) (f:sD->sD) (o:f m.v=m.v.put now) (n:Int):
 uy i p b life cN (λv=>if v.s=m.v.s then f v else v) τ w (ax (n:Int)) z:=by
 have⟨q,r⟩:=h.put g j k c l d e;exact⟨n,_,rfl,q,Yk (m':=m.put nv nb now) h.nd g rfl f o.symm,r⟩
def aft{life:Int}{cN:List jB}(h:kV τ w i p b life cN)(s:Int)(I:ld s):aj prog 102 #[p,(s:Int)] w (uy i p b life cN (λv=>if v.s=s then v.mend else v) τ w):=by
 obtain j|⟨m,B,rfl,j⟩:=vB cN s
 .have⟨C,E⟩:=aK (UJ h s I j) (Kr h j sD.mend 4)
  generalize uy i p b life cN (λv=>if v.s=s then v.mend else v) τ w=Q at*;clear h j;go_in;go_wp2_with fail
  refine aH C.o ?_;go_wp2;exact E.o
 .have C:=au (F5 h I j)
  have k:=h.r m B;have d:=k.ok;have J:=au (uU m.gv m.v.good w (gC k.g) (by have:=d.2.2.2.1;omega));have t:=k.c;have⟨N,O,u,_⟩:=k.g.len;have⟨T,U,F,_⟩:=k.n.len;have K:=aF t 0 rfl;have V:=az t;have E:=au (λ(y:ae) (v:ah) (g:Option Nat) (l:ai w w y) (G:Seg y 5 1 g v (lJ m.v.good) m.v.good.length) (q:∀x,g=some x->w.heap.size<=x)=>
   Pw h B l (z:=y.setCell ⟨m.a,1,none⟩ v) (nv:=v) (nb:=g) (now:=m.v.good) ((aQ.refl _ _).setCell _ (by simp) _) (by simpa using aE (i:=1) ((ch l).at t (by simp)) v) (G.bH ((aQ.refl [m.a] _).setCell _ (by simp) _) (λx A=>by have:=q x A;simp;omega)) q
    ⟨d.1,d.1,d.2.2.1,d.2.2.2.1,rfl,d.2.2.2.2.2.1,d.2.2.2.2.2.2⟩ sD.mend rfl 0)
  have H:=au t;rw[u]at K J;generalize m.a=a at*;generalize uy i p b life cN (λv=>if v.s=m.v.s then v.mend else v) τ w=Q at*;generalize m.v.s=s at*;generalize m.v.good=good at*;generalize m.gv=gv at*;generalize m.nv=nv at*;clear h j k d t u F B;go_in;go_wp2_with fail
  refine aH C.o ?_;go_wp2_with fail
  refine J.m ?_;rintro e y ⟨L,rfl,g,q,A,l⟩;have M:=au (E.o y L g l q A);have f:=(ch l).at H.o (by simp);have W:=aF f 1 rfl;have X:=bB f 1;obtain⟨Y,Z,rfl,_⟩:=q.len;clear q A l f;go_wp2;exact M.o
def Yl(bs:List Int)(k:Nat)(z:Int):(lJ bs).set k (.int .u8 z)=lJ (bs.set k z):=by simp[lJ,List.map_set]
def EA(b y:Int):0<=oE b y/\oE b y<256:=by
 have a:=bits_lo_u8 .xor b ((IntKind.u64.wrap (1+(IntKind.u64.wrap y).tmod 255))%256);have c:=bits_hi_u8 .xor b ((IntKind.u64.wrap (1+(IntKind.u64.wrap y).tmod 255))%256);unfold oE;omega
def EC{bs:List Int}(h:cQ bs)(k:Nat){z:Int}(b:0<=z/\z<256):cQ (bs.set k z):=λx a=>by
 obtain a|rfl:=jC a
 .exact h x a
 .exact b
def abg{v:sD}(h:Kc v)(a x:Int):Kc (v.Ux a x):=by
 obtain⟨b,g,c,d,i,e,f⟩:=h;exact⟨b,EC b _ (EA _ _),c,d,by simp[sD.Ux,Uw],e,f⟩
def ajU{i p b:Nat}{life:Int}{cN:List jB}(h:kV τ w i p b life cN)(s:Int)(hs:ld s)(f x:Int):aj prog 103 #[p,(s:Int),f,x] w (uy i p b life cN (λv=>if v.s=s then v.Ux f x else v) τ w):=by
 obtain F|⟨m,Z,rfl,F⟩:=vB cN s
 .obtain⟨HG,HF⟩:=aK (UJ h s hs F) (Kr h F (λv=>v.Ux f x) 4)
  generalize uy i p b life cN (λv=>if v.s=s then v.Ux f x else v) τ w=Q at*;clear h F;go_in;go_wp2_with fail
  refine aH HG.o ?_;go_wp2;exact HF.o
 .have HG:=au (F5 h hs F)
  have G:=h.r m Z;have t:=G.ok;have HC:=au (uU m.gv m.v.good w (gC G.g) (by have:=t.2.2.2.1;omega));have K:=G.c;obtain⟨ga,H,L,_⟩:=G.g.len;obtain⟨na,nc,Zp,_⟩:=G.n.len;have c0:=aF K 0 rfl;have al:=az K;have l0:=t.2.2.1;have l1:=t.2.2.2.1;have ht:=OT f m.v.good.length l0;obtain⟨d,M⟩:∃d:Nat,(IntKind.u64.wrap f).tmod (m.v.good.length:Int)=(d:Int):=⟨((IntKind.u64.wrap f).tmod (m.v.good.length:Int)).toNat,by omega⟩
  have N:d<m.v.good.length:=by omega
  have O:qq f m.v.good.length=d:=by unfold qq;rw[M];simp
  obtain⟨I,C⟩:=aD (oE (m.v.good.getD d 0) x);have u:m.v.Ux f x=m.v.put (m.v.good.set d I):=by unfold sD.Ux Uw;rw[O,C];rfl
  have HF:=au (λ(y:ae) (k l H:Nat) (J:ai w w y) (hsg:Seg y 5 1 (some k) (av (some ⟨k,l,none⟩) m.v.good.length H) (lJ m.v.good) m.v.good.length) (W:w.heap.size<=k)=>
   Pw h Z J (z:=(y.setCell ⟨m.a,1,none⟩ (av (some ⟨k,l,none⟩) m.v.good.length H)).drew.setCell ⟨k,l+d,none⟩ (.int .u8 I)) (nv:=av (some ⟨k,l,none⟩) m.v.good.length H) (nb:=some k) (now:=m.v.good.set d I)
    ((((aQ.refl _ _).setCell _ (by simp) _).drew).setCell _ (by simp) _)
    (((aQ.refl [k] _).setCell ⟨k,l+d,none⟩ (by simp) (.int .u8 I)).at (show(World.setCell _ _ _).heap[m.a]? =_ by simpa using aE (i:=1) ((ch J).at K (by simp)) (av (some ⟨k,l,none⟩) m.v.good.length H)) (by simp;omega))
    (by
     have h1:=hsg.bH ((aQ.refl [m.a] y).setCell ⟨m.a,1,none⟩ (by simp) (av (some ⟨k,l,none⟩) m.v.good.length H)).drew (λx X=>by simp at X;simp;omega);have h2:=iw h1 (j:=d) (by omega) (.int .u8 I);rw[Yl]at h2;rw[ds];exact h2) (λq hq=>by simp at hq;omega)
    (by rw[<-u];exact abg t f x) (λv=>v.Ux f x) u 0)
  obtain⟨HC0,HB0⟩:=aK K (show(lJ m.v.good)[d]? =some (.int .u8 (m.v.good.getD d 0))by simp[lJ,N,aU]);rw[L]at c0 HC;generalize m.a=a at*;generalize uy i p b life cN (λv=>if v.s=m.v.s then v.Ux f x else v) τ w=Q at*;generalize m.v.s=s at*;have hl0:m.v.good≠[]:=by intro e;rw[e]at l0;simp at l0
  generalize m.v.good=good at*;generalize m.gv=gv at*;generalize m.nv=nv at*;have HZV:=au C;have q1:(0:Int)<=(d:Int):=by omega
  have q2:(d:Int)<(good.length:Int):=by omega
  clear h F G t K L Zp Z ht O C u;go_in;go_wp2_with fail
  refine aH HG.o ?_;go_wp2_with fail
  refine HC.m ?_;rintro e y ⟨v',rfl,g,W,X,J⟩;obtain⟨k,l,B,rfl,rfl,gl,T⟩:=W.cell (by decide) d N;have hgb:=X k rfl;have HQ:=au (HF.o y k l B J W hgb);have A:=(ch J).at HC0.o (by simp);have c1:=aF A 1 rfl;have f1:=bB A 1;have al2:=az A;obtain⟨d0,d1⟩:=T 0 _ (by decide) (by rw[Nat.mul_one,bM];exact HB0.o);simp only[Nat.mul_one,bM]at d0 d1;obtain⟨z,Y⟩:=aD (y.setCell ⟨a,1,none⟩ (av (some ⟨k,l,none⟩) good.length B));have U:k≠a:=by omega
  have gz:aQ [a] y z:=Y▸(aQ.refl _ _).setCell _ (by simp) _;have e1:z.cell? ⟨a,1,none⟩=some (av (some ⟨k,l,none⟩) good.length B):=by rw[Y];have:=aE (i:=1) A (av (some ⟨k,l,none⟩) good.length B);simp[World.cell?,this]
  have e2:=(cU (gz.block k gl (by simpa using U))).trans d0;have e3:=(World.frozen?_of_block (gz.block k gl (by simpa using U))).trans d1;have HZ:=au Y;obtain⟨b0,E⟩:=aD (good.getD d 0);rw[<-E]at e2;have HB2:=au E;clear W X J A T d0 d1 Y gz E;have hQ:=HQ.o;rw[<-HZ.o]at hQ;obtain⟨Wl,V⟩:=aK hQ (show I=oE b0 x by rw[HB2.o];exact HZV.o);clear hQ;go_upto_region 4 with fail
  rw[<-HZ.o];clear c1 f1;have w1:IntKind.u64.wrap (good.length:Int)=(good.length:Int):=IntWalk.u64_in _ (by omega)
  go_still_tail 22,(by kernel_rfl)
  have hzz:=V.o;subst hzz;go_wp2;exact Wl.o
def OfP(bs:List Int)(w:ae)(e:ak)(w':ae):Prop:=∃v n,e=ax (aM #[v,an ar n])/\dI w w' v bs/\ai w w w'
def Ym(v:ah)(ws:List ByteArray)(w:ae)(h:aT oR 1 w v ws)(r:∀s∈ws,s.size<=1000):aj prog 131 #[v] w (OfP (jo ws) w):=by
 have H:=au (show∀v n y u,u=jo ws->dI w y v u->ai w w y->OfP (jo ws) w (ax (aM #[v,an ar n])) y fromλv n y u e J K=>⟨v,n,rfl,by rw[<-e];exact J,K⟩);generalize OfP (jo ws) w=Q at*;by_cases c:fx ws=0
 .have x:=au (JZ v ws w h r c)
  have⟨j,k,i⟩:=xk c;have b:uj (eO (ws.map (·.data.toList)))=jo ws:=by unfold jo;rw[aI c]
  have t:=au b;have⟨U,d⟩:=aD (eO (ws.map (·.data.toList)));rw[<-d]at j k i t;have⟨L,A⟩:=aK (And.intro j (And.intro k i)) d;clear h r c j k i b d;go_in;go_wp2_with fail
  refine x.m ?_;rintro e y ⟨p,rfl,⟨g,V,W,l,a,_,_⟩,q⟩;have⟨j,k,i⟩:=L.o;rw[<-A.o]at a;have B:=aeT l (by rw[a,<-cr (f:=dP.n),a];omega) (by rw[a];exactλm M e N=>by have:=i m M e N;omega);rw[a]at B;have⟨O,C⟩:=aK B q;clear l a q j k i B;go_wp2_with fail
  refine O.m ?_;rintro e z ⟨P,rfl,E,I⟩;have F:=au (H.o P 0 z _ t.o (Own.mono E C.o.size) (C.o.trans (I.mono C.o.size)));obtain⟨X,Y,rfl,_⟩:=Own.len E;clear E I;go_wp2;exact F.o
 .have x:=au (O9 v ws w h r c)
  have b: []=jo ws:=by unfold jo;rw[aC c]
  have t:=au b;have T:(fx ws !=0)=true:=by simpa using c
  generalize fx ws=G at*;clear h r c b;go_in;go_wp2_with fail
  refine x.m ?_;rintro e y ⟨rfl,q⟩;have F:=au (H.o () G y [] t.o (Own.nil _ _ _ _) q);clear q;go_wp2;exact F.o
def Ra(b:List fI)(a:List ByteArray)(s:Int):∀x∈mM b a s,x∈a:=λx c=>(List.mem_filter.1 c).1
def abi(c:aV)(s:Int)(w:ae)(k:c.ok w)(B:c.bd):aj prog 104 #[c.val,(s:Int)] w (OfP (jq c s) w):=by
 have⟨u,O⟩:=aD (w.alloc (aB c.cells.toArray 25 (0,0)));have⟨P,hl,J⟩:=aV.box O;have⟨HS,HW,HF⟩:=aX (zB c u (k.below J.aJ)) (λy (l:ai u u y)=>aab c s y ((k.below J.aJ).below l) B) (show∀v n y T,T=jq c s->dI w y v T->ai w w y->OfP (jq c s) w (ax (aM #[v,an ar n])) y fromλv n y T e h1 h2=>⟨v,n,rfl,by rw[<-e];exact h1,h2⟩);generalize OfP (jq c s) w=Q at*;have⟨K,C⟩:=aK (show jq c s=if cP s 0 (aZ c-1)=true then jo (mM c.cuts c.words s)else []from rfl) (show∀x∈mM c.cuts c.words s,x.size<=1000 fromλx hx=>k.ws x (Ra _ _ _ x hx));have⟨h1,h2⟩:=cW c;generalize jq c s=img at*;have⟨sl,E⟩:=aD (mM c.cuts c.words s);rw[<-E]at HW K C;generalize aZ c=U at*;have⟨V,G⟩:=aK P J.aJ;obtain⟨L,M,W,cuts,d,f,h,i,aS,j,first,p,g,net⟩:=c;have⟨HU,X,Y⟩:=aX (show u=w.alloc (aB #[L,M,d,f,h,i,aS,j,first,p,g,net] 25 (0,0))from O) (show aj prog 80 #[aG #[L,M,d,f,h,i,aS,j,first,p,g,net]] u λe N=>e=ax U/\ai u u N from HS.o) (show∀y (l:ai u u y),aj prog 132 #[aG #[L,M,d,f,h,i,aS,j,first,p,g,net],an ar s] y λe N=>∃v,e=ax v/\mI y N v sl/\ai y y N from HW.o);have a:=aV.cellAt P hl (aO _ _);have Z:=a 0 _ rfl;have c1:=a 1 _ rfl;have c2:=a 2 _ rfl;have c3:=a 3 _ rfl;have c4:=a 4 _ rfl;have c5:=a 5 _ rfl;have c6:=a 6 _ rfl;have c7:=a 7 _ rfl;have c8:=a 8 _ rfl;have c9:=a 9 _ rfl;have q:=a 10 _ rfl;have r:=a 11 _ rfl;clear O J k B P a E
 show aj prog 104 #[aG #[L,M,d,f,h,i,aS,j,first,p,g,net],an ar s] w _
 go_in;go_upto_region 1 with fail
 rw[<-HU.o];go_wp2_with fail
 refine aN X.o ?_;intro y l;have⟨HY,F⟩:=aK l (λw=>jV s 0 (U-1) w);have⟨b,A⟩:=aD (cP s 0 (U-1));rw[<-A]at K F;clear Z c1 c2 c3 c4 c5 c6 c7 c8 c9 q r A;go_wp2_with fail
 refine aH (F.o y) ?_;cases b
 .have HQ:=au (HF.o () 4 y [] (by rw[K.o];rfl) (Own.nil _ _ _ _) (G.o.trans (HY.o.mono G.o.size)))
  clear l;go_wp2;exact HQ.o
 .have a:=aV.cellAt V.o hl l
  have Z:=a 0 _ rfl;have c1:=a 1 _ rfl;have c2:=a 2 _ rfl;have c3:=a 3 _ rfl;have c4:=a 4 _ rfl;have c5:=a 5 _ rfl;have c6:=a 6 _ rfl;have c7:=a 7 _ rfl;have c8:=a 8 _ rfl;have c9:=a 9 _ rfl;have q:=a 10 _ rfl;have r:=a 11 _ rfl;have⟨HW2,H⟩:=aK (Y.o y l) (G.o.trans (l.mono G.o.size));clear l a;go_wp2_with fail
  refine HW2.m ?_;rintro e z ⟨v,rfl,hv,hz⟩;have⟨HO,t⟩:=aK (Ym v sl z hv.reads C.o) (H.o.trans (hz.mono H.o.size));clear hv hz Z c1 c2 c3 c4 c5 c6 c7 c8 c9 q r;go_wp2_with fail
  refine HO.m ?_;rintro e z2 ⟨v',n,rfl,A,I⟩;have HQ:=au (HF.o v' n z2 _ (by rw[K.o];rfl) (Own.mono A t.o.size) (t.o.trans (I.mono t.o.size)));obtain⟨va,vc,rfl,_⟩:=Own.len A;clear A I;go_wp2;exact HQ.o
def Rb{ws:List ByteArray}(h:fx ws=0)(p:ByteArray->Bool):fx (ws.filter p)=0:=by
 unfold fx at h⊢;split at h
 .cases h
 rename_i f;split at h
 .cases h
 rename_i d;split at h
 .cases h
 rename_i g;have j:∀a b c:ByteArray,Tr a b=true->Tr b c=true->Tr a c=true:=λa b c f d=>by
  unfold Tr nX at*;simp only[ei]at*;exact vu f d
 simp only[Bool.not_eq_false]at d g;rw[aC (λe=>f (bP e (List.length_filter_le _ _))),aC,aC]
 .simp only[Bool.not_eq_false]
  have k:=(re j g).filter p;rw[j_];intro m i;have:=List.pairwise_iff_getElem.1 k m (m+1) (by omega) i (by omega);simpa[aU,show m<(ws.filter p).length by omega,i]using this
 .simp only[Bool.not_eq_false,pC]at d⊢
  exactλx l=>d x (List.mem_filter.1 l).1
def gj(n:Int)(k:Nat):cQ (dA n k):=λx a=>by
 unfold dA at a;obtain⟨j,_,rfl⟩:=List.mem_map.1 a;unfold dig;omega
def dW{a b:List Int}(d:cQ a)(e:cQ b):cQ (a++b):=λx f=>(List.mem_append.1 f).elim (d x) (e x)
def pU{b:Type}{f:b->List Int}(d:∀x,cQ (f x))(l:List b):cQ (l.flatMap f):=λx e=>by
 have⟨a,_,h⟩:=List.mem_flatMap.1 e;exact d a x h
def Ks(ns:List gO):cQ (uj ns):=by
 have a:cQ (o_ ns):=dW (dW Kb (gj _ _)) (pU (λn=>dW (dW (gj _ _) (gj _ _)) (pU (λe=>dW (gj _ _) (gj _ _)) _)) _);exact dW a (gj _ _)
variable{c:aV}
def Kt(d:fX c=true){s:Int}(a:cP s 0 (aZ c-1)=true):Kc ⟨s,jq c s,jq c s⟩:=by
 have b:fx (mM c.cuts c.words s)=0:=Rb (aV.bounds d).gw _;have e:jq c s=uj (eO ((mM c.cuts c.words s).map (·.data.toList))):=by unfold jq jo;rw[aI a,aI b]
 have⟨f,g,_⟩:=xk b;have h:=QT (eO ((mM c.cuts c.words s).map (·.data.toList)));have i:=cW c;have j:=kA.1 a;unfold Kc;simp only;rw[e];exact⟨Ks _,Ks _,by omega,by omega,trivial,by omega,by omega⟩
def vG{x s:Int}(h:s∈fw c x):cP s 0 (aZ c-1)=true:=by
 unfold fw at h;have⟨a,_⟩:=List.mem_filter.1 h;obtain⟨k,b,rfl⟩:=List.mem_map.1 a;have:=List.mem_range.1 b;rw[kA];omega
def Ku(c:aV)(x:Int):(fw c x).Nodup:=by
 unfold fw;refine List.Pairwise.filter _ ?_;rw[List.pairwise_map];exact List.nodup_range.imp λh e=>h (by omega)
def ED(c:aV)(x:Int):(fw c x).length<=6:=by
 have:=cW c;have h:(fw c x).length<=(((List.range (aZ c).toNat).map λs:Nat=>(s:Int))).length:=List.length_filter_le _ _;rw[cr,List.length_range]at h;omega
def DnP(c:aV)(id:Int)(i:Nat)(τ:cj)(w:ae)(e:ak)(w':ae):Prop:=
 ∃p b cN br,e=ax (aM #[aL (some ⟨p,0,none⟩),an ar 0])/\kV br w' i p b 0 cN/\cN.map jB.v=vx c id/\(∀k,k<w.heap.size->br k=τ k)/\ai w w w'
def F8(c:aV)(id:Int)(i:Nat)(τ:cj)(w y:ae)(p b k:Nat)(wr:ae):Prop:=
 ∃cN br,kV br wr i p b 0 cN/\cN.map jB.v=(vx c id).take k/\(∀k,k<w.heap.size->br k=τ k)/\aQ [b] y wr
def Rc{id:Int}{k:Nat}(a:k<(fw c id).length):(vx c id).take (k+1)=(vx c id).take k++ [⟨(fw c id).getD k 0,jq c ((fw c id).getD k 0),jq c ((fw c id).getD k 0)⟩]:=by
 unfold vx;rw[<-List.map_take,<-List.map_take,fG a,gF];simp[aU,a]
def F8.next{id:Int}{i:Nat}{τ:cj}{w y wr z j t:ae}{p b k:Nat}{s:Int}{bs:List Int}{A B:ah}{O P:Option Nat}(hm:fX c=true)(M:k<(fw c id).length)(Q:s=(fw c id).getD k 0)(E:bs=jq c s)(U:w.heap.size<=wr.heap.size)
 {cN:List jB} {br:cj} (hd:kV br wr i p b 0 cN) (hv:cN.map jB.v=(vx c id).take k) (ht:∀k,k<w.heap.size->br k=τ k) (hc:aQ [b] y wr)
 (h1:ai wr wr z) (F:Seg z 5 1 O A (lJ bs) bs.length) (o:∀x,O=some x->wr.heap.size<=x)
 (V:ai z z j) (G:Seg j 5 1 P B (lJ bs) bs.length) (H:∀x,P=some x->z.heap.size<=x)
 (I:je (aL none) t b (λx=>if x=s then some (aL (some j))else Cx cN x) (if(Cx cN s).isSome then cN.length else cN.length+1)) (l:aQ [b] (j.alloc (aB #[A,B] 211 (0,0))) t):F8 c id i τ w y p b (k+1) t:=by
 have W:=hd.m.lt;have u:aQ ([]:List Nat) wr j:=(aQ.of_below h1).trans (aQ.of_below V);have X:aQ ([]:List Nat) wr (j.alloc (aB #[A,B] 211 (0,0))):=u.alloc _;have d:=(X.mono (by simp)).trans l;obtain⟨hk1,Y⟩:s∈fw c id/\cP s 0 (aZ c-1)=true:=by
  have:s∈fw c id:=by rw[Q];exact bh _ k M
  exact⟨this,vG this⟩
 let T:cj:=eP (eP br wr .keep) j (.FR i s)
 have J:Fr (·=.dmap i) br T wr t:=by
  refine⟨d.os,d.tape,d.output,d.size,λq f=> ?_,λq f hn=>d.block q f (λe=>hn (by rw[List.mem_singleton.1 e];exact hd.tb))⟩
  show eP _ _ _ q=_
  rw[dZ (bP f u.size),dZ f]
 have K:(j.alloc (aB #[A,B] 211 (0,0))).heap[j.heap.size]? =some (aB #[A,B] 211 (0,0)):=a_ _ _;have hzz:=u.size;have hz1:=h1.size;have Z:b≠j.heap.size:=by omega
 let m:jB:=⟨⟨s,bs,bs⟩,j.heap.size,A,B,O,P⟩
 have n:s∉cN.map λm=>m.v.s:=by
  intro h;have⟨x,g,e⟩:=List.mem_map.1 h;have C:x.v∈(vx c id).take k:=by rw[<-hv];exact List.mem_map.2 ⟨x,g,rfl⟩
  have L:s∈((fw c id).take k):=by
   unfold vx at C;rw[<-List.map_take]at C;have⟨q,f,e2⟩:=List.mem_map.1 C;rw[<-e,<-e2];exact f
  have N:=Ku c id;rw[<-mE k (fw c id),List.nodup_append]at N;refine N.2.2 s L s ?_ rfl;rw[List.drop_eq_getElem_cons M];exact List.mem_cons.2 (.inl (by rw[Q];simp[aU,M]))
 have hl1:=λx g=>F.lt x g
 have hl2:=λx g=>G.lt x g
 refine⟨cN++ [m],T,⟨J.at hd.c (by rw[hd.tp];simp),?_,λx g=> ?_,?_,(J.old _ (az hd.c)).trans hd.tp,(J.old _ W).trans hd.tb,hd.l0,hd.l1⟩,?_,λq f=>(J.old q (bP f U)).trans (ht q f),hc.trans d⟩
 .have C:=I
  have L:Cx cN s=none:=by
   obtain h|⟨x,g,e,_⟩:=vB cN s
   .exact h
   .exact bL (List.mem_map.2 ⟨x,g,e⟩) n
  have hF:Cx (cN++ [m])=λx=>if x=s then some (aL (some j))else Cx cN x:=by
   funext x;unfold Cx;rw[List.find?_append];by_cases g:x=s
   .subst g
    have N:cN.find? (λy=>y.v.s==x)=none:=by
     unfold Cx at L;simpa using L
    rw[N];simp[m]
   .rw[aC g]
    cases cN.find? (λy=>y.v.s==x)with
    |some y=>rfl
    |none=>
     have:¬s=x:=λe=>g e.symm
     simp[m,this]
  rw[hF,bF];rw[L]at C;exact C
 .obtain g|g:=List.mem_append.1 g
  .exact(hd.r x g).fr J (by simp) (by simp)
  .rw[List.mem_singleton.1 g]
   have c1:aQ ([]:List Nat) z j:=aQ.of_below V;refine⟨l.at K (by simp only[cm];exactλe=>Z e.symm),?_,?_,d_ (aP _),λq f=> ?_,λq f=> ?_,?_⟩
   .exact((F.bH c1 (by simp)).bH ((aQ.refl ([]:List Nat) j).alloc _) (by simp)).bH l (λq f=>by have:=o q f;simp;omega)
   .exact(G.bH ((aQ.refl ([]:List Nat) j).alloc _) (by simp)).bH l (λq f=>by have:=H q f;simp;omega)
   .have:=hl1 q f
    have:=o q f;have:=V.size
    show eP _ _ _ q=_
    rw[dZ (by omega),d_ (o q f)]
   .have:=hl2 q f
    have:=H q f
    show eP _ _ _ q=_
    rw[dZ (by omega),d_ (by omega)]
   .show Kc ⟨s,bs,bs⟩
    rw[E];exact Kt hm Y
 .rw[gF,List.nodup_append]
  refine⟨hd.nd,by simp,λa ha b hb e=>n ?_⟩;simp only[gi,List.map_nil,cm]at hb;rw[<-show b=s from hb,<-e];exact ha
 .rw[gF,hv,Rc M,<-Q]
  simp only[gi,List.map_nil,m,E]
def F8.start{c:aV}{id:Int}{i:Nat}{τ:cj}{w y u z:ae}(j:w.heap.size<=y.heap.size)(a:u=(y.alloc (.map #[] 0)).alloc (aB #[.map (some y),an ar 0] 156 (0,0)))(d:ai u u z):F8 c id i τ w z (y.heap.size+1) y 0 z:=by
 have⟨l,e,m,n⟩:=rZ a;have b:aQ ([]:List Nat) u z:=aQ.of_below d;have f:je (aL none) u y (Cx []) 0:=by
  have g:=je.made (aL none) y;rw[a];refine g.bH ((aQ.refl ([]:List Nat) _).alloc _) (by simp)
 refine⟨[],λk=>if k<w.heap.size then τ k else if k=y.heap.size+1 then .FQ i else if k=y.heap.size then .dmap i else .tmp,⟨b.at e (by simp),f.bH b (by simp),by simp,by simp,?_,?_,by decide,by decide⟩,rfl,λk h=>aI h,aQ.refl _ _⟩
 .show(if _ then _ else _)=_
  rw[aC (by omega),aI rfl]
 .show(if _ then _ else _)=_
  rw[aC (by omega),aC (by omega),aI rfl]
def U6(c:aV)(id:Int)(i:Nat)(τ:cj)(w:ae)(O:c.ok w)(hm:fX c=true)(h1:1<=id)(h2:id<=c.workers):aj prog 85 #[c.val,(id:Int)] w (DnP c id i τ w):=by
 have⟨u,hu⟩:=aD (w.alloc (aB c.cells.toArray 25 (0,0)));have⟨hc,hl,hg⟩:=aV.box hu;have hbd:=aV.bounds hm;have HM:=au (D1 c u (O.below hg.aJ));rw[hm]at HM;have⟨HK,HI⟩:=aK (λy (B:ai w w y)=>TH c id y (O.below B)) (λy (s:Int) (B:ai w w y)=>abi c s y (O.below B) hbd);have⟨r,A⟩:=aD (fw c id);have hkl:=ED c id;rw[<-A]at HK hkl;have hkm:∀k,k<r.length->0<=r.getD k 0/\r.getD k 0<=5:=λk hk=>by
  have h3:=kA.1 (vG (c:=c) (x:=id) (by rw[<-A];exact bh r k hk:r.getD k 0∈fw c id));have:=cW c;omega
 have⟨HKM,Mk,HST,ke,ajV⟩:=iI hkm (λ(y wr P T t:ae) (p b k:Nat) (va vb:ah) (g1 g2:Option Nat) (hk:k<r.length)=> @F8.next c id i τ w y wr P T t p b k (r.getD k 0) (jq c (r.getD k 0)) va vb g1 g2 hm (by rw[<-A];exact hk) (by rw[<-A]) rfl) (λ(y u z:ae)=> @F8.start c id i τ w y u z) (show∀p b y wr,F8 c id i τ w y p b r.length wr->ai w w wr->DnP c id i τ w (ax (aM #[aL (some ⟨p,0,none⟩),an ar 0])) wr fromλp b y wr ⟨U,br,k1,k2,k3,_⟩ hb=>⟨p,b,U,br,rfl,k1,by rw[k2,A];unfold vx;rw[<-List.map_take,fR],k3,hb⟩) (show∀y p b k wr,F8 c id i τ w y p b k wr->wr.heap[p]? =some (aB #[.map (some b),an ar 0] 156 (0,0))/\b<wr.heap.size/\aQ [b] y wr fromλy p b k wr ⟨U,br,k1,_,_,k4⟩=>⟨k1.c,k1.m.lt,k4⟩);generalize DnP c id i τ w=Q at*;have⟨I,hI⟩:= @aD (Int->List Int) (jq c);rw[<-hI]at HI Mk;have HLEN:=au (show∀k,k<r.length->(I (r.getD k 0)).length<=100000 fromλk hk=>by
  rw[hI];exact(Kt hm (vG (c:=c) (x:=id) (by rw[<-A];exact bh r k hk))).2.2.2.1)
 have⟨D,hD⟩:= @aD (ae->Nat->Nat->Nat->ae->Prop) (λy p b k wr=>F8 c id i τ w y p b k wr);have⟨HD,MD,G⟩:=aX hD hc hg.aJ;obtain⟨wv,cv,words,cuts,d,g,j,l,aS,n,first,H,h,net⟩:=c;have⟨HU,HM',HK',HI'⟩:=c_ (show u=w.alloc (aB #[wv,cv,d,g,j,l,aS,n,first,H,h,net] 25 (0,0))from hu) (show aj prog 46 #[aG #[wv,cv,d,g,j,l,aS,n,first,H,h,net]] u λe w'=>e=ax (aw true)/\ai u u w' from HM.o) (show∀y (B:ai w w y),aj prog 86 #[aG #[wv,cv,d,g,j,l,aS,n,first,H,h,net],an ar id] y λe w'=>∃v,e=ax v/\fU y w' v r/\ai y y w' from HK.o) (show∀y (s:Int) (B:ai w w y),aj prog 104 #[aG #[wv,cv,d,g,j,l,aS,n,first,H,h,net],an ar s] y (OfP (I s) y)from HI.o);have a:=aV.cellAt hc hl (aO _ _);have c0:=a 0 _ rfl;have c1:=a 1 _ rfl;have c2:=a 2 _ rfl;have c3:=a 3 _ rfl;have c4:=a 4 _ rfl;have c5:=a 5 _ rfl;have c6:=a 6 _ rfl;have c7:=a 7 _ rfl;have c8:=a 8 _ rfl;have c9:=a 9 _ rfl;have C:=a 10 _ rfl;have E:=a 11 _ rfl;have q1:¬id<1:=by omega
 have q2:¬d<id:=by simp only at h2;omega
 have hmm:= @run_makeMap prog;clear hu hg O hbd hc a A hkm hI hm h1 h2
 show aj prog 85 #[aG #[wv,cv,d,g,j,l,aS,n,first,H,h,net],an ar id] w _
 go_in;go_upto_region 1 with fail
 rw[<-HU.o];go_wp2_with fail
 refine aN HM'.o ?_;intro y B;have a:=aV.cellAt MD.o hl B;clear c0 c1 c2 c3 c4 c5 c6 c7 c8 c9 C E;have c0:=a 0 _ rfl;have c1:=a 1 _ rfl;have c2:=a 2 _ rfl;have c3:=a 3 _ rfl;have c4:=a 4 _ rfl;have c5:=a 5 _ rfl;have c6:=a 6 _ rfl;have c7:=a 7 _ rfl;have c8:=a 8 _ rfl;have c9:=a 9 _ rfl;have C:=a 10 _ rfl;have E:=a 11 _ rfl;have V:=G.o.trans (B.mono G.o.size);have⟨u2,hu2⟩:=aD ((y.alloc (.map #[] 0)).alloc (aB #[.map (some y),an ar 0] 156 (0,0)));have⟨b1,b2,bg,bl⟩:=rZ hu2;have HU2:=au hu2;have Wt:=V.trans (bg.aJ.mono V.size);have⟨Cw,HKU,HYU,HWY,HYS⟩:=iI Wt (HK'.o u2 Wt) (B.trans (bg.aJ.mono B.size)) V B.size;clear B a V hu2 b1 b2 bg Wt;go_upto_region 4 with fail
 rw[<-HU2.o];have a:=aV.cellAt MD.o hl HYU.o;clear c0 c1 c2 c3 c4 c5 c6 c7 c8 c9 C E hmm;have c0:=a 0 _ rfl;have c1:=a 1 _ rfl;have c2:=a 2 _ rfl;have c3:=a 3 _ rfl;have c4:=a 4 _ rfl;have c5:=a 5 _ rfl;have c6:=a 6 _ rfl;have c7:=a 7 _ rfl;have c8:=a 8 _ rfl;have c9:=a 9 _ rfl;have C:=a 10 _ rfl;have E:=a 11 _ rfl;clear a;go_wp2_with fail
 refine HKU.m ?_;rintro e z ⟨kv,rfl,hkv,hz⟩;obtain⟨ka,kc,rfl,_⟩:=Own.len hkv;have⟨kg,A,hkg⟩:=Own.Cs hkv;have⟨HKS,HKG,Y,HUZ,HWZ⟩:=iI A hkg (HST.o y u2 z HWY.o.size HU2.o hz) (HYU.o.trans (hz.mono HYU.o.size)) (Cw.o.trans (hz.mono Cw.o.size));have⟨b,hb⟩:=aD y.heap.size;have hbu:b<u2.heap.size:=by omega
 have hwb:w.heap.size<b:=by have:=HYS.o;omega
 rw[<-hb]at Y⊢;clear hkv A hkg hz hb c0 c1 c2 c3 c4 c5 c6 c7 c8 c9 C E;go_wp2_with fail
 go_loopw [31] (λi wr=>∃k:Nat,i=an ar k/\k<=r.length/\D z (b+1) b k wr) (λi _=>r.length-(intOf i).toNat)
 case atStart=>exact⟨0,rfl,bz _,by rw[HD.o];exact Y.o⟩
 case round=>
  obtain⟨k,rfl,hk,hd⟩:=hrel;rw[HD.o]at hd;have⟨hpc,hbl,J⟩:=ajV.o _ _ _ _ _ hd;have K:=HWZ.o.trans (J.below (by simp;omega) HWZ.o.size);by_cases W:k<r.length
  .obtain⟨eb,eo,rfl,ebl,a⟩:=(aT.gP (f:=dX) (xs:=r) (HKS.o.bH J (λq hq=>by have:=HKG.o q hq;simp;omega)) (λ_=>rfl) (by decide)).slot k W
   have x0:_=some (Value.int .i64 (r.getD k 0)):=a 0 _ rfl;simp only[bM,Nat.mul_one]at x0;have a:∀i v,(#[wv,cv,d,g,j,l,aS,n,first,H,h,net]).toList[i]? =some v->wr.cell? ⟨w,i,none⟩=some v:=λi v hv=>(cU (J.block w (bP hl HUZ.o.size) (by simp;omega))).trans (aV.cellAt MD.o hl HUZ.o i v hv)
   have c0:=a 0 _ rfl;have c1:=a 1 _ rfl;have c2:=a 2 _ rfl;have c3:=a 3 _ rfl;have c4:=a 4 _ rfl;have c5:=a 5 _ rfl;have c6:=a 6 _ rfl;have c7:=a 7 _ rfl;have c8:=a 8 _ rfl;have c9:=a 9 _ rfl;have C:=a 10 _ rfl;have E:=a 11 _ rfl;have⟨s0,s5⟩:=HKM.o k W;have hil:=HLEN.o k W;have⟨s,hs⟩:=aD (r.getD k 0);have hx:=λ(P T t:ae) (va vb:ah) (g1 g2:Option Nat)=>Mk.o z wr P T t (b+1) b k va vb g1 g2 W
   rw[<-hs]at x0 s0 s5 hil hx;have HX:=au hx;obtain⟨U,br,d1,d2,d3,d4⟩:=hd;have apV:U.length<=6:=by
    have:=congrArg List.length d2;rw[cr,dw]at this;omega
   have⟨HMV,HD1,HD2,HD3,HD4,HIM⟩:=eC (λ(y:ae) (B:aQ ([]:List Nat) wr y) (v:ah)=>(d1.m.same (w':=y) (B.block b d1.m.lt (by simp))).store (t:=154) underlying154 (by omega) (eN (x:=s) (by omega) (by omega)) v) d1 d2 d3 d4 (HI'.o wr s K);have⟨HPC,HWW⟩:=aK hpc K;have z1':(0:Int)<=(k:Int):=by omega
   have z2':(k:Int)<(r.length:Int):=by omega
   clear hpc J K a hs hx d1 d2 d3 d4;go_wp2_with fail
   refine HIM.m ?_;rintro e P ⟨va,nn,rfl,hva,hz1⟩;have⟨g1,F,hg1⟩:=Own.Cs hva;obtain⟨a1,k1,rfl,_⟩:=F.len;have L:=(ch hz1).at HPC.o (by simp);have cp1:=aF L 0 rfl;have⟨Ww,ajY,ajZ,Zs,HZ1⟩:=iI (λy (B:aQ ([]:List Nat) P y)=>uU _ (I s) y (gC (F.bH B (by simp))) (by omega)) F L hg1 hz1;clear hva F hg1 hz1 L c0 c1 c2 c3 c4 c5 c6 c7 c8 c9 C E x0;go_upto_region 8 with fail
   go_region_law (first
    |(refine dm (by rfl) 101 func101 (by kernel_rfl) (by kernel_rfl) (by rfl) _ (by kernel_rfl) (Ww.o _ (by first|exact aQ.refl _ _|exact(aQ.refl _ _).drew)) ?_;rintro e T ⟨vb,rfl,g2,M,hg2,hz2⟩;refine⟨_,rfl,?_⟩;obtain⟨a2,k2,rfl,_⟩:=M.len;have X:ai P P T:=(by first|exact hz2|exact((aO _ _).drew).trans hz2);have Z:(∀x,g2=some x->P.heap.size<=x):=hg2;have⟨t,hrun,hmt,hct⟩:=HMV.o (T.alloc (aB #[av a1 (I s).length k1,av a2 (I s).length k2] 211 (0,0))) (((aQ.of_below HZ1.o).trans (aQ.of_below X)).alloc _) T.heap.size;have HN:=au (HX.o P T t _ _ g1 g2 HWW.o.size HD1.o HD2.o HD3.o HD4.o HZ1.o ajY.o Zs.o X M Z hmt hct);have N:=(ch X).at ajZ.o (by simp);have cp2:T.cell? ⟨b+1,0,none⟩=some (.map (some b)):=(aF N _ rfl);have Yn:=az N;clear M hg2 hz2 X Z hmt hct N)
    |fail)
   all_goals
    go_wp2_with fail
    go_roundw
    case rel=>exact⟨k+1,by simp,by omega,by rw[HD.o];exact HN.o⟩
    case measure=>simp[intOf];omega
  .obtain rfl:k=r.length:=by omega
   have HF:=au (ke.o _ _ _ _ hd K);clear hd hpc J K;go_wp2;exact HF.o
end Go.Proofs.YtjpnlfpompnpkaaGreat
