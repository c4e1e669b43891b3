/-
  Chapter 5: the distance of texts; what awake answers.
-/
import Derived.Test.YtdlihgceokpkkaaEdit
import Derived.Test.YtdlihgceokpkkaaTxB
import Derived.Test.YtdlihgceokpkkaaDistV
import Derived.Test.YtdlihgceokpkkaaSameInts
namespace Go.Proofs.Ytdlihgceokpkkaa
open Go.RowKit Utf

set_option maxHeartbeats 1000000 in
theorem distP (a b : ByteArray) (w : World) (ha : a.size ≤ 100000) (hb : b.size ≤ 100000) :
    Calls Try.prog 20 #[.string a, .string b] w fun e w' => e = .returned (.int .i64 (distV a.data.toList b.data.toList)) ∧ Below w.heap.size w w' := by
  generalize hq : distV a.data.toList b.data.toList = q
  have HQ := Lib.hid hq
  clear hq
  have la : ∀ x, runes a.data.toList = some x → x.length ≤ a.size := fun x h => runes_len h
  have lb : ∀ x, runes b.data.toList = some x → x.length ≤ b.size := fun x h => runes_len h
  have LA := Lib.hid la
  have LB := Lib.hid lb
  clear la lb
  go_enter Try.func20, Try.ntmps20
  go_wp2_with fail
  refine (runesP a _ (by omega) (by omega)).mono ?_
  rintro e w1 ⟨v1, rfl, hown1, hb1⟩
  go_wp2_with fail
  refine (runesP b _ (by omega) (by omega)).mono ?_
  rintro e w2 ⟨v2, rfl, hown2, hb2'⟩
  have hb2 : Below w.heap.size w w2 := hb1.trans (hb2'.mono hb1.size)
  have hr1 := (owns_reads hown1).below hb2'
  have hr2 := owns_reads hown2
  clear hown1 hown2 hb1 hb2'
  cases hra : runes a.data.toList with
  | none =>
    have e : q = -1 := by rw [← HQ.out]; simp [distV, hra]
    generalize (runes b.data.toList).isSome = p
    simp only [Option.isSome_none]
    clear hr1 hr2 hra
    go_wp2
    go_ret
    exact ⟨ret_int e.symm, hb2⟩
  | some x =>
  cases hrb : runes b.data.toList with
  | none =>
    have e : q = -1 := by rw [← HQ.out]; simp [distV, hrb]
    simp only [Option.isSome_none, Option.isSome_some]
    clear hr1 hr2 hra hrb
    go_wp2
    go_ret
    exact ⟨ret_int e.symm, hb2⟩
  | some y =>
    have e : q = Lev.lev (x.map (fun (r : Nat) => (r : Int))) (y.map (fun (r : Nat) => (r : Int))) := by rw [← HQ.out]; simp [distV, hra, hrb]
    have l1 := LA.out x hra
    have l2 := LB.out y hrb
    rw [hra] at hr1
    rw [hrb] at hr2
    have HE := Lib.hid e
    have hed := editRunes v1 v2 _ _ w2 hr1 hr2 (by simp [intsOf]; omega) (by simp [intsOf]; omega)
    simp only [Option.isSome_some]
    clear hr1 hr2 hra hrb e
    go_wp2_with (go_at_call 14; refine calls_ext hed ?_; intro u)
    go_ret
    exact ⟨ret_int (by rw [HE.out]; rfl), below_ext hb2 (Nat.le_refl _) _⟩

theorem rows_ab : rowsV [97, 98] [98] = [1, 1, 1] := by
  simp [rowsV, List.range_succ, Lev.D, Lev.lev_cons, Lev.lev_nil, Lev.lev_nil', Lev.ne]

set_option maxHeartbeats 1000000 in
theorem awakeC (w : World) : Calls Try.prog 11 #[] w fun e w' => e = .returned (.bool true) ∧ Below w.heap.size w w' := by
  have e0 := dist_one
  have e1 := dist_none
  go_enter Try.func11, Try.ntmps11
  go_wp2_with (first
    | (go_at_call 20; with_reducible refine calls_ext2 (distP _ _ _ (by decide) (by decide)) ?_; intro u)
    | (go_at_call 20; refine calls_ext (distP _ _ _ (by decide) (by decide)) ?_; intro u))
  generalize hW : ext w u = W
  have hbW : Below w.heap.size w W := by rw [← hW]; exact ext_below _ _
  clear hW
  have h1 : Reads ((W.alloc (.cells #[.int .i32 97, .int .i32 98] 21)).alloc (.cells #[.int .i32 98] 21)) .i32 (.slice (some ⟨W.heap.size, 0, none⟩) 2 2) [97, 98] := (reads_lit W .i32 _ [97, 98] (by decide) _ rfl).alloc _
  have h2 : Reads ((W.alloc (.cells #[.int .i32 97, .int .i32 98] 21)).alloc (.cells #[.int .i32 98] 21)) .i32 (.slice (some ⟨W.heap.size + 1, 0, none⟩) 1 1) [98] := by
    have := reads_lit (W.alloc (.cells #[.int .i32 97, .int .i32 98] 21)) .i32 21 [98] (by decide) _ rfl
    simpa using this
  refine (editRows _ _ [97, 98] [98] _ h1 h2 (by decide) (by decide)).mono ?_
  rintro e w1 ⟨v, rfl, hown, hb1⟩
  have hr := owns_reads hown
  rw [rows_ab] at hr
  have hbw1 : Below w.heap.size w w1 := ((hbW.alloc hbW.size _).alloc (by have := hbW.size; simp; omega) _).trans (hb1.mono (by have := hbW.size; simp; omega))
  clear hown h1 h2 hb1 hbW e0 e1
  go_wp2_with fail
  refine calls_ext (sameInts _ _ [1, 1, 1] [1, 1, 1] _ (hr.alloc _) (reads_lit _ _ _ [1, 1, 1] (by decide) _ rfl)) ?_
  intro u
  go_wp2
  go_ret
  exact ⟨rfl, below_ext (hbw1.alloc hbw1.size _) (Nat.le_refl _) _⟩

end Go.Proofs.Ytdlihgceokpkkaa
