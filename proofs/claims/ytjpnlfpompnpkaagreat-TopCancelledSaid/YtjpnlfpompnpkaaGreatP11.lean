import Derived.Test.YtjpnlfpompnpkaaGreatP05
namespace Go.Proofs.YtjpnlfpompnpkaaGreat
open Go.RowKit Go.Proofs.Tryz
open Go.Value renaming int->an,slice->av,bool->aw,string->aA,tuple->aM,pointer->aL,agg->aG
open Go.IntKind renaming i64->ar
open Go.Ending renaming returned->ax
open Go.Obj renaming cells->aB
open Go renaming World->ae,Value->ah
set_option maxRecDepth 100000
set_option linter.all false
open Go.ChangeMaps
def Seg.XC{w:ae}{e sz:Nat}{g:Option Nat}{v:ah}{cs:List ah}{n:Nat}(h:Seg w e sz g v cs n)(t:TypeId){z:ah}{bytes:Nat}(d:prog.underlying t=some (.slice e))
 (c:(prog.info? e).map (λi=>(i.zero,i.size,i.bytes))=some (some z,sz,bytes)) {l:ah} {s:Option Nat} {j:List ah} (u:Seg w e sz s l j 0):
 ∀m,(Builtin.append_ #[t,t] m #[v,l]).run prog w=.ok v w:=by
 intro m;have⟨o,f,x,y,A⟩:=info_parts c;obtain⟨p,q,rfl,_⟩:=u.len;obtain⟨_,⟨rfl,rfl,rfl⟩|⟨b,B,C,E,rfl,rfl,F,r,G,H,I⟩⟩:=h
 .cases p with
  |none=>simp[Builtin.append_,run_underlying d,sizeOf,typeInfo,f,Builtin.lenOf,Builtin.firstCells]
  |some a=>
   have k:=run_firstCells_some (P:=prog) w o.size 0 a 0 q [] (by simp) (by simp);simp[Builtin.append_,run_underlying d,sizeOf,typeInfo,f,Builtin.lenOf,k]
 .cases p with
  |none=>simp[Builtin.append_,run_underlying d,sizeOf,typeInfo,f,Builtin.lenOf,Builtin.firstCells,r,storeCells]
  |some a=>
   have k:=run_firstCells_some (P:=prog) w o.size 0 a 0 q [] (by simp) (by simp);simp[Builtin.append_,run_underlying d,sizeOf,typeInfo,f,Builtin.lenOf,k,r,storeCells]
def Seg.add{w:ae}{e sz:Nat}{g:Option Nat}{v:ah}{cs:List ah}{n:Nat}(h:Seg w e sz g v cs n)(t:TypeId){z:ah}{bytes:Nat}(B:prog.underlying t=some (.slice e))
 (a:(prog.info? e).map (λi=>(i.zero,i.size,i.bytes))=some (some z,sz,bytes)) (l:z.cells.size=sz) (f:0<sz) {C:ah} {L:Option Nat} {c:List ah} {m:Nat} (k:Seg w e sz L C c m) (M:∀u∈c,u.oneCell'=true) (hn:n+m<=1000000) (o:bytes<=1000000):
 ∃v' w' g',(∀N,(Builtin.append_ #[t,t] N #[v,C]).run prog w=.ok v' w')/\Seg w' e sz g' v' (cs++c) (n+m)/\aQ g.toList w w'/\(g'=g∨∃b,g'=some b/\w.heap.size<=b):=by
 obtain rfl|E:=Nat.eq_zero_or_pos m
 .refine⟨v,w,g,h.XC t B a k,?_,aQ.refl _ _,.inl rfl⟩
  have:c=[]:=List.length_eq_zero_iff.1 (by rw[k.1];simp);rw[this,List.append_nil];exact h
 .have⟨O,Q,p,q,r⟩:=info_parts a
  obtain⟨b,d,s,rfl,rfl,hl,hc⟩:=k.cell f 0 E;obtain⟨x,⟨y,_⟩|⟨b',F,G,T,H,I,U,q2,q3,q4,V⟩⟩:=k
  .cases y
  .simp only[bA]at H
   subst H;simp only[bG,bA,dr,et,bK]at I;obtain⟨rfl,rfl⟩:=I;have W:(n+m)*bytes<=140737488355328:=bD (Nat.mul_le_mul (show n+m<=1000000 by omega) o) (by decide);have⟨v',w',g',X,Y,Z,r4,_⟩:=h.append (P:=prog) t O z bytes B Q p q r l f ⟨b,d,none⟩ m s E c x (λj u J=>by
    have A:j<m*sz:=by
     have:=(List.getElem?_eq_some_iff.1 J).1;omega
    have K:=V j A;rw[J]at K;have ha:(Addr.add ⟨b,d,none⟩ j)=⟨b,d+j,none⟩:=by
     unfold Addr.add;split
     .rename_i y;subst y;rfl
     .rfl
    rw[ha];simp only[World.cell?,U];exact K) M (by unfold maxLen;omega) W
   exact⟨v',w',g',X,Y,Z,r4⟩
end Go.Proofs.YtjpnlfpompnpkaaGreat
