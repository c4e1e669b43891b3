import Derived.Test.YtjpnlfpompnpkaaGreatP51
namespace Go.Proofs.YtjpnlfpompnpkaaGreat
open Go.RowKit Go.Proofs.Tryz
open Go.Value renaming int->an,slice->av,bool->aw,string->aA,tuple->aM,pointer->aL,agg->aG
open Go.IntKind renaming i64->ar
open Go.Ending renaming returned->ax
open Go.Obj renaming cells->aB
open Go renaming World->ae,Value->ah,Calls->aj,Ending->ak
open Go.RowKit renaming Below->ai
set_option maxRecDepth 100000
set_option linter.all false
set_option maxHeartbeats 2000000
open Go.ChangeMaps mX
variable{P:Tg->Prop}{τ br:cj}{w w':ae}{c:aV}{xb rb np:Nat}{rs:List cS}{v:ah}{ls:List fF}{E:List (Nat×Obj)}{s:di×cS}{wr y:ae}
variable{r:cS}
def RW{i:ae}{x x':di}{L:List fF}(h:dN c xb rb np rs () [] E τ i (x,r) w)(t:Nat)(q F:Int)(M:ByteArray)(N O:Int)(ht:t<=x.ws.length)
 (d:∀E y,dN c xb rb np rs () [] E τ i (x,r) y->∃b f H p,y.cell? ⟨xb,1,none⟩=some (av (some ⟨b,f,none⟩) (x.ws.length+1) H)/\x.ws.length<=maxLen/\b<y.heap.size/\y.cell? ⟨b,f+t,none⟩=some (.iface 124 (aG #[aL (some ⟨p,0,none⟩)]))/\
  aj prog 243 #[aG #[aL (some ⟨p,0,none⟩)],an ar F] y λe z=>∃v,e=ax v/\dN c xb rb np rs v L E τ i (x',r) z)
 (T:x.ws.length<=5) (hL:L.length<=1000) (U:x'.next<=10000000) (V:r.sent.length<=1000) (W:r.lost.length<=1000):
 aj prog 47 #[xb,rb,aG #[an ar 4,(t:Int),q,F,aA M,N,O]] w λe w'=>e=ax (aM #[])/\dN c xb rb np rs () [] E τ i (L.foldl (cF c t) (x',r)) w':=by
 have⟨u,K⟩:=aD (w.alloc (aB #[an ar 4,(t:Int),q,F,aA M,N,O] 33 (0,0)));have⟨X,bg,el⟩:=dt K;have A:=h.box _ K;have⟨j,B⟩:=aD w.heap.size;have⟨I,C⟩:=aD (Obj.cells #[an ar 4,(t:Int),q,F,aA M,N,O] 33 (0,0));rw[<-B]at X el A;rw[<-C]at A;have⟨d0,d1⟩:=dk X;have⟨HU,Y⟩:=aK K B;have⟨cx2,xl,rl,_⟩:=A.cells;have⟨b,f,H,p,c1,c2,c3,c4,c5⟩:=d _ _ A;have HC:=au (show∀z,ai u u z->aj prog 243 #[aG #[aL (some ⟨p,0,none⟩)],an ar F] z λe y=>∃v,e=ax v/\(∃a n k,v=av a n k)/\dN c xb rb np rs v L ((j,I)::E) τ i (x',r) y fromλz m=>by
  have⟨b',off',cap',p',Z,a2,G,a4,a5⟩:=d _ _ (A.below m);rw[m.cell (p:=⟨xb,1,none⟩) xl,c1]at Z;simp only[bA,bG,dr,bK,et]at Z;obtain⟨⟨rfl,rfl⟩,_⟩:=Z;rw[m.cell (p:=⟨b,f+t,none⟩) c3,c4]at a4;simp only[bA,Value.iface.injEq,Value.agg.injEq,bK]at a4;have e:p'=p:=by simpa using a4.symm
  rw[e]at a5;refine a5.mono λe y hh=> ?_
  obtain⟨v,rfl,l⟩:=hh;exact⟨v,rfl,l.shape,l⟩)
 have HBU:=au (show∀z,ai u u z->dN c xb rb np rs () [] ((j,I)::E) τ i (x,r) z fromλz m=>A.below m);have q0:(0:Int)<=(t:Int):=by omega
 have q1:(t:Int)<((x.ws.length+1:Nat):Int):=by omega
 have J:=au (show∀v ls s (y:ae),dN c xb rb np rs v ls ((j,I)::E) τ i s y->y.cell? j=(4:Int)/\y.cell? ⟨j,1,none⟩=(t:Int)/\y.cell? ⟨j,3,none⟩=F/\j<y fromλv ls s y hy=>by
  have⟨_,_,_,a2⟩:=hy.cells;have G:=a2 j _ (iK ..);rw[C]at G;exact⟨aF G _ rfl,aF G _ rfl,aF G _ rfl,az G⟩)
 have HSD:=au (show∀v y,(∃a n k,v=av a n k)->dN c xb rb np rs v L ((j,I)::E) τ i (x',r) y->aj prog 64 #[xb,rb,(t:Int),v] y λe z=>e=ax (aM #[])/\dN c xb rb np rs () [] E τ i (L.foldl (cF c t) (x',r)) z/\dN c xb rb np rs v L ((j,I)::E) τ i (L.foldl (cF c t) (x',r)) z fromλv y _ hy=>by
  refine(rU hy t (by simp only;omega) (by simp only;omega) (by simp only;omega)).mono ?_;rintro e z ⟨rfl,m⟩;exact⟨rfl,m.mute.less (λ_ hp=>du _ hp),m⟩)
 clear ht hL T c2 U V W c5 d;clear h A K B C bg X;generalize x.ws.length+1=n1 at*;generalize(L.foldl (cF c t) (x',r))=Q at*;go_in;go_upto_region 1 with fail
 rw[<-HU.o,<-Y.o];go_upto_region 12 with fail
 go_quiet (fail);go_upto_region 13 with fail
 generalize hZ:World.drewN _ _=z at*;have g:ai u u z.drew:=by rw[<-hZ];exact(below_drewN (aO _ _) _).drew
 have K0:=au (J.o _ _ _ _ (HBU.o _ g));have e1:=(g.cell (p:=⟨xb,1,none⟩) xl).trans c1;have e2:=(g.cell (p:=⟨b,f+t,none⟩) c3).trans c4;have HZ:=au (HC.o _ g);clear g hZ;have⟨_,k1,k3,kl⟩:=K0.o;go_region_law (first
  |(refine xD (by rfl) 243 func243 (by kernel_rfl) (by kernel_rfl) (by rfl) (by rfl) (agk _ _) _ (by kernel_rfl) HZ.o ?_;rintro e y1 ⟨_,rfl,⟨va,vn,vc,rfl⟩,l⟩;refine⟨_,rfl,?_⟩;have⟨_,m1,_,_⟩:=J.o _ _ _ _ l;have HS:=au l;clear l)
  |(refine dm (by rfl) 64 func64 (by kernel_rfl) (by kernel_rfl) (by rfl) _ (by kernel_rfl) (HSD.o _ _ ⟨_,_,_,rfl⟩ HS.o) ?_;rintro e y2 ⟨rfl,l,hs2⟩;refine⟨_,rfl,?_⟩;have HE:=au l;clear l hs2)
  |(trace_state;fail))
 all_goals
  go_wp2
  go_end0
  exact⟨rfl,HE.o⟩
end Go.Proofs.YtjpnlfpompnpkaaGreat
