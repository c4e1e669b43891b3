/-
  Chapter 1: the law TextTells.
-/
import Derived.Test.YtkagbgibncgkcaaRefMore
import Derived.Test.YtkagbgibncgkcaaTxAwake
import Derived.Test.YtkagbgibncgkcaaOverRunes
namespace Go.Proofs.Ytkagbgibncgkcaa
open Go.RowKit Utf

theorem own_apart {w1 w2 : World} {B1 B2 : Nat} {e1 e2 : TypeId} {s1 s2 n1 n2 : Nat} {v1 v2 : Value} {l1 l2 : List Value} (h1 : w1.ownsRow B1 e1 s1 v1 n1 l1) (h2 : w2.ownsRow B2 e2 s2 v2 n2 l2) (h : w1.heap.size ≤ B2) :
    v2.ownBlock = none ∨ v2.ownBlock ≠ v1.ownBlock := by
  cases e : v2.ownBlock with
  | none => exact .inl rfl
  | some g =>
    right
    intro h3
    have a := h2.lt g e
    have b := h1.lt g h3.symm
    omega

set_option maxRecDepth 100000 in
set_option maxHeartbeats 4000000 in
theorem tellsC (s : ByteArray) (n : Int) (w : World) (hs : s.size ≤ maxLen) (hn64 : n ≤ 9223372036854775807) :
    Calls Try.prog 5 #[.string s, .int .i64 n] w fun e w' => e = .returned (.bool true) ∧ Below w.heap.size w w' := by
  have hs' := hs
  unfold maxLen at hs'
  by_cases c1 : 300 < s.size
  · go_enter Try.func5, Try.ntmps5
    go_wp2_with (go_at_call 10; refine calls_ext (awakeC _) ?_; intro u)
    go_ret
    exact ⟨rfl, ext_below _ _⟩
  have hlen : ∀ o, runes s.data.toList = o → (intsOf o).length ≤ 300 := by
    intro o h
    cases o with
    | none => simp [intsOf]
    | some x => have := runes_len h; have h2 : s.data.toList.length = s.size := rfl; simp [intsOf]; omega
  generalize hro : runes s.data.toList = o at hlen
  have HRO := Lib.hid hro
  have hl := hlen o rfl
  clear hro hlen
  go_enter Try.func5, Try.ntmps5
  go_wp2_with fail
  refine (runesP s _ (by omega) (by omega)).mono ?_
  rintro e w1 ⟨v1, rfl, hown1, hb1⟩
  rw [HRO.out] at hown1 ⊢
  go_wp2_with fail
  refine (runesR s _ (by omega) (by omega)).mono ?_
  rintro e w2 ⟨v2, rfl, hown2, hb2⟩
  rw [HRO.out] at hown2 ⊢
  have hr1 := (owns_reads hown1).below hb2
  have hr2 := owns_reads hown2
  have hsame := fun W (b : Below w2.heap.size w2 W) => sameRunes v1 v2 _ _ W (hr1.below b) (hr2.below b)
  simp only [decide_true] at hsame
  have HO1 := Lib.hid (ownsRow_below hown1 hb2)
  have HO2 := Lib.hid hown2
  have HAP := Lib.hid (own_apart hown1 hown2 (Nat.le_refl _))
  have HB := Lib.hid (hb1.trans (hb2.mono hb1.size))
  have HLT := Lib.hid (fun k (h : v1.ownBlock = some k) => (hown1.lt k h).1)
  have HSZ : Hid (w.heap.size ≤ w2.heap.size) := Nat.le_trans hb1.size hb2.size
  clear hown1 hown2 hr1 hr2 hb1 hb2
  go_wp2_with (first
    | (go_at_call 15; refine calls_ext (hsame _ (Below.refl _ _)) ?_; intro u)
    | (go_at_call 16; with_reducible refine calls_ext2 (lenP _ _ hs) ?_; intro u)
    | (go_at_call 17; with_reducible refine calls_ext2 (lenR _ _ (by omega) (by omega)) ?_; intro u)
    | (go_at_call 18; with_reducible refine calls_ext2 (wordP _ _ hs) ?_; intro u)
    | (go_at_call 19; with_reducible refine calls_ext2 (wordR _ _ (by omega) (by omega)) ?_; intro u)
    | (go_at_call 20; with_reducible refine calls_ext2 (askedP _ _ hs) ?_; intro u)
    | (go_at_call 21; with_reducible refine calls_ext2 (askedR _ _ (by omega) (by omega)) ?_; intro u)
    | (go_at_call 22; with_reducible refine calls_ext2 (prefixP _ _ _ hs hn64) ?_; intro u)
    | (go_at_call 23; with_reducible refine calls_ext2 (prefixR _ _ _ (by omega)) ?_; intro u))
  refine (overRunes v1 _ w.heap.size _ _ (ownsRow_below HO1.out (ext_below _ _)) (by omega) (Nat.le_trans HSZ.out (ext_below _ _).size)).mono ?_
  rintro e w3 ⟨rfl, hg⟩
  have HO3 := Lib.hid (World.ownsRow.kept (ownsRow_below HO2.out (ext_below w2 _)) hg HAP.out)
  have HB3 := Lib.hid ((below_ext HB.out (Nat.le_refl _) _).grown hg (Nat.le_trans HSZ.out (ext_below w2 _).size) HLT.out)
  clear hg hsame
  go_wp2_with fail
  refine (runesP s _ (by omega) (by omega)).mono ?_
  rintro e w4 ⟨v3, rfl, hown3, hb4⟩
  rw [HRO.out] at hown3 ⊢
  have hr1 := owns_reads hown3
  have hr2 := (owns_reads HO3.out).below hb4
  have hsame := sameRunes v3 v2 _ _ w4 hr1 hr2
  simp only [decide_true] at hsame
  have HB4 := Lib.hid (HB3.out.trans (hb4.mono HB3.out.size))
  clear hown3 hr1 hr2 hb4
  go_wp2_with (first
    | (go_at_call 15; refine calls_ext hsame ?_; intro u)
    | (go_at_call 10; with_reducible refine calls_ext2 (awakeC _) ?_; intro u))
  go_ret
  exact ⟨rfl, below_ext HB4.out (Nat.le_refl _) _⟩

end Go.Proofs.Ytkagbgibncgkcaa
