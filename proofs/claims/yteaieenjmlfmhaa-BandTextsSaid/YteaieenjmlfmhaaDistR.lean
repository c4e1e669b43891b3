/-
  Chapter 5: the document's distance of texts.
-/
import Derived.Test.YteaieenjmlfmhaaTableR
import Derived.Test.YteaieenjmlfmhaaDistV
import Derived.Test.YteaieenjmlfmhaaRefRunesW
namespace Go.Proofs.Yteaieenjmlfmhaa
open Go.RowKit Utf

set_option maxHeartbeats 1000000 in
theorem distR (a b : ByteArray) (w : World) (ha : a.size ≤ 100000) (hb : b.size ≤ 100000) :
    Calls Try.prog 11 #[.string a, .string b] w fun e w' => e = .returned (.int .i64 (distV a.data.toList b.data.toList)) ∧ Below w.heap.size w w' := by
  generalize hq : distV a.data.toList b.data.toList = q
  have HQ := Lib.hid hq
  clear hq
  have la : ∀ x, runes a.data.toList = some x → x.length ≤ a.size := fun x h => runes_len h
  have lb : ∀ x, runes b.data.toList = some x → x.length ≤ b.size := fun x h => runes_len h
  have LA := Lib.hid la
  have LB := Lib.hid lb
  clear la lb
  go_enter Try.func11, Try.ntmps11
  go_wp2_with fail
  refine (runesR a _ (by omega) (by omega)).mono ?_
  rintro e w1 ⟨v1, rfl, hown1, hb1⟩
  go_wp2_with fail
  refine (runesR b _ (by omega) (by omega)).mono ?_
  rintro e w2 ⟨v2, rfl, hown2, hb2'⟩
  have hb2 : Below w.heap.size w w2 := hb1.trans (hb2'.mono hb1.size)
  have hr1 := (owns_reads hown1).below hb2'
  have hr2 := owns_reads hown2
  clear hown1 hown2 hb1 hb2'
  cases hra : runes a.data.toList with
  | none =>
    have e : q = -1 := by rw [← HQ.out]; simp [distV, hra]
    generalize (runes b.data.toList).isSome = p
    simp only [Option.isSome_none]
    clear hr1 hr2 hra
    go_wp2
    go_ret
    exact ⟨ret_int e.symm, hb2⟩
  | some x =>
  cases hrb : runes b.data.toList with
  | none =>
    have e : q = -1 := by rw [← HQ.out]; simp [distV, hrb]
    simp only [Option.isSome_none, Option.isSome_some]
    clear hr1 hr2 hra hrb
    go_wp2
    go_ret
    exact ⟨ret_int e.symm, hb2⟩
  | some y =>
    have e : q = Lev.lev (x.map (fun (r : Nat) => (r : Int))) (y.map (fun (r : Nat) => (r : Int))) := by rw [← HQ.out]; simp [distV, hra, hrb]
    have l1 := LA.out x hra
    have l2 := LB.out y hrb
    rw [hra] at hr1
    rw [hrb] at hr2
    have HE := Lib.hid e
    have hed := refRunes v1 v2 _ _ w2 hr1 hr2 (by simp [intsOf]; omega) (by simp [intsOf]; omega)
    simp only [Option.isSome_some]
    clear hr1 hr2 hra hrb e
    go_wp2_with (go_at_call 9; refine calls_ext hed ?_; intro u)
    go_ret
    exact ⟨ret_int (by rw [HE.out]; rfl), below_ext hb2 (Nat.le_refl _) _⟩

end Go.Proofs.Yteaieenjmlfmhaa
