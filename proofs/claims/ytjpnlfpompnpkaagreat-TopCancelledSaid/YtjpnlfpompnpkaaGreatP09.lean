import Derived.Test.YtjpnlfpompnpkaaGreatP05
namespace Go.Proofs.YtjpnlfpompnpkaaGreat
open Go.RowKit Go.Proofs.Tryz
open Go.Value renaming int->an,slice->av,bool->aw,string->aA,tuple->aM,pointer->aL,agg->aG
open Go.IntKind renaming i64->ar
open Go.Ending renaming returned->ax
open Go.Obj renaming cells->aB
open Go renaming World->ae,Value->ah,Calls->aj
open Go.RowKit renaming Below->ai
set_option maxRecDepth 100000
set_option linter.all false
set_option maxHeartbeats 400000
def clip(x m:Int):Int:=min (max x 0) m
def jy(x m:Int)(h:0<=m):0<=clip x m/\clip x m<=m:=by unfold clip;omega
def O6(x:Int)(w:ae):
 aj prog 272 #[(x:Int)] w λe w'=>e=ax (clip x 1000:Int)/\w=w':=by
 go_in;go_wp2
 all_goals
  go_ret;exact⟨kH (by unfold clip;omega),rfl⟩
def Uc{P:Program}{f:FuncId}{args:Array ah}{w:ae}{n:Nat}{v:ah}
 (h:aj P f args (w.drewN n) λe w'=>e=ax v/\w.drewN n=w'):aj P f args (w.drewN n) λe a=>e=ax v/\∃m,a=w.drewN m:=
 h.mono λ_ _ ⟨b,c⟩=>⟨b,n,c.symm⟩
def vo(n:Int):Nat->Int
 |0=>n
 |k+1=>2*vo n k
def O7(f:Int)(k:Nat)(a:k<=6):0<=vo (clip f 1000) k/\vo (clip f 1000) k<=64000:=by
 have h:=jy f 1000 (by omega)
 match k,a with
 |0,_|1,_|2,_|3,_|4,_|5,_|6,_=>simp only[vo];omega
def ud(n c:Int):Nat->Int
 |0=>n
 |k+1=>min (2*ud n c k) c
def JQ(f c:Int)(k:Nat):0<=ud (clip f 1000) (clip c 1000) k/\ud (clip f 1000) (clip c 1000) k<=1000:=by
 have h:=jy f 1000 (by omega);have a:=jy c 1000 (by omega)
 induction k with
 |zero=>simpa[ud]using h
 |succ k b=>simp only[ud];omega
def M6(f c:Int)(k:Nat):min (ud (clip f 1000) (clip c 1000) k) (clip c 1000)=min (vo (clip f 1000) k) (clip c 1000):=by
 have d:=jy c 1000 (by omega);have a:∀k,0<=vo (clip f 1000) k:=by
  intro k;have h:=jy f 1000 (by omega)
  induction k with
  |zero=>simpa[vo]using h.1
  |succ k b=>simp only[vo];omega
 induction k with
 |zero=>rfl
 |succ k b=>have:=a k;have:=JQ f c k;simp only[ud,vo];omega
def kC(f c j x y:Int):Int:=
 min (vo (clip f 1000) (clip x 6).toNat) (clip c 1000)+low y (clip j 1000+1)
def Ud(f c j x y a:Int)(k:Nat)(d:(k:Int)=clip x 6)(h:min a (clip c 1000)=min (vo (clip f 1000) k) (clip c 1000)):
 wrap64 (min a (clip c 1000)+wrap64 ((IntKind.u64.wrap y).tmod (clip j 1000+1)))=kC f c j x y:=by
 have e:=jy j 1000 (by omega);have g:=jy c 1000 (by omega);have i:=jy x 6 (by omega);have b:(clip x 6).toNat=k:=by omega
 have l:=O7 f k (by omega);rw[zY _ _ (by omega) (by omega),h];unfold kC;rw[b];have:=sH y (clip j 1000+1) (by omega);unfold wrap64;omega
def QG(w:ae)(o:Obj)(n:Nat):ai w w ((w.alloc o).drewN n):=by
 have h:=(aO w w).alloc (aP _) o;exact⟨h.os,h.tape,h.output,h.size,h.block⟩
def Zj(w1 w2 b d g h l m:ah)(f c j n x y:Int)(w:ae):
 aj prog 263 #[aG #[w1,w2,b,d,g,h,l,m,f,c,j,n],an ar x,an ar y] w λe w'=>e=ax (kC f c j x y:Int)/\ai w w w':=by
 have t:=jy x 6 (by omega);have p:=jy j 1000 (by omega);have q:Hid (min (max x 0) 6=clip x 6):=rfl;go_in;go_wp2_with ((go_at_call 272;refine(O6 _ _).mono ?_;rintro e w' ⟨rfl,rfl⟩));rw[q.out]
 go_loop [7,14] (λa i=>∃k:Nat,(k:Int)<=clip x 6/\i=an ar k/\a=an ar (ud (clip f 1000) (clip c 1000) k)) (λ_ i=>6-(intOf i).toNat)
 case atStart=>exact⟨0,by omega,rfl,rfl⟩
 case round=>
  obtain⟨k,u,rfl,rfl⟩:=hrel;have v:=JQ f c k;by_cases r:(k:Int)<clip x 6
  .go_wp2_with ((go_at_call 272;refine(O6 _ _).mono ?_;rintro e w' ⟨rfl,rfl⟩))
   go_round
   case rel=>exact⟨k+1,by omega,by go_num,by simp[ud]⟩
   case measure=>simp[intOf];omega
  .have s:=au (M6 f c k)
   go_wp2_with ((go_at_call 272;refine(O6 _ _).mono ?_;rintro e w' ⟨rfl,rfl⟩));go_quiet ((go_at_call 272;exact Uc (O6 _ _)));go_wp2;go_ret;exact⟨kH (Ud f c j x y _ k (by omega) s.o),QG _ _ _⟩
def mi(x:Int):Int:=min (clip x 6+1) 6
def aie(x:Int)(w:ae):aj prog 260 #[(x:Int)] w λe w'=>e=ax (mi x:Int)/\w=w':=by
 have a:min (max x 0) 6<=6/\0<=min (max x 0) 6:=by omega
 go_in;go_wp2;go_ret;exact⟨kH (by unfold mi clip;omega),rfl⟩
end Go.Proofs.YtjpnlfpompnpkaaGreat
