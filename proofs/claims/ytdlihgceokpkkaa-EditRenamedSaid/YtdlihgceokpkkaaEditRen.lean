/-
  Chapter 5: the law EditRenamed.
-/
import Derived.Test.YtdlihgceokpkkaaEditMetric
import Derived.Test.YtdlihgceokpkkaaLevMap
namespace Go.Proofs.Ytdlihgceokpkkaa
open Go.RowKit

/-- Another number for a number. -/
def turn (c x : Int) : Int := bits .xor .i32 x c

theorem turn_snoc (c : Int) (a : List Int) (k : Nat) (h : k < a.length) : ((a.take k).map (fun x => Value.int .i32 (turn c x))) ++ [Value.int .i32 (turn c (a.getD k 0))] = (a.take (k + 1)).map (fun x => Value.int .i32 (turn c x)) := by
  rw [List.take_succ_eq_append_getElem h, List.map_append, List.getD_eq_getElem?_getD, List.getElem?_eq_getElem h]
  rfl

set_option maxHeartbeats 1000000 in
theorem otherC (v : Value) (a : List Int) (c : Int) (w : World) (ha : Reads w .i32 v a) (la : a.length ≤ 100000) :
    Calls Try.prog 24 #[v, .int .i32 c] w fun e w' => ∃ v', e = .returned v' ∧ Reads w' .i32 v' (a.map (turn c)) ∧ Below w.heap.size w w' := by
  obtain ⟨a1, c1, rfl, _, _, r1⟩ := ha
  obtain ⟨i0, hi, hz0, hz1, hz2⟩ := info_parts infoRune
  have HI := Lib.hid hi
  have HZ0 := Lib.hid hz0
  have HZ1 := Lib.hid hz1
  have HZ2 := Lib.hid hz2
  clear hi hz0 hz1 hz2
  go_enter Try.func24, Try.ntmps24
  go_wp2
  go_loopw [5, 6] (fun v i wr => ∃ k : Nat, k ≤ a.length ∧ i = .int .i64 k ∧ wr.ownsRow w.heap.size 21 1 v k ((a.take k).map (fun x => Value.int .i32 (turn c x))) ∧ Below w.heap.size w wr) (fun _ i _ => a.length - (intOf i).toNat)
  case atStart => exact ⟨0, Nat.zero_le _, rfl, World.ownsRow_nil _ _ _ _, Below.refl _ _⟩
  case round =>
    obtain ⟨k, hk, rfl, hown, hbel⟩ := hrel
    by_cases hlt : k < a.length
    · obtain ⟨b1, o1, rfl, hbb1, hca⟩ := r1 k hlt
      rw [← hbel.cell (p := ⟨b1, o1 + k, none⟩) hbb1] at hca
      have HS := Lib.hid (turn_snoc c a k hlt)
      have q1 : (0 : Int) ≤ (k : Int) := by omega
      have q2 : (k : Int) < (a.length : Int) := by omega
      generalize a.getD k 0 = x at hca HS
      clear r1
      go_wp2_with (at_builtin; refine wpList_append_own _ rfl (.tmp 13) (.tmp 20) 22 rfl w.heap.size 21 i0 (.int .i32 0) 1 4 Try.underlying22 HI.out HZ0.out HZ1.out HZ2.out rfl (by decide) _ _ _ rfl (hown.alloc _) ⟨wr.heap.size, 0, none⟩ 1 1 [.int .i32 (turn c x)] rfl rfl (cell_lit _ _ _) (by intro u hu; simp at hu; subst hu; rfl) (by unfold maxLen; omega) (by omega) (by have := hbel.size; simp; omega) ?_; intro v1 w1 hown3 hgrow _)
      rw [HS.out] at hown3
      have hb3 : Below w.heap.size w w1 := (hbel.alloc hbel.size _).grown hgrow (by have := hbel.size; simp; omega) (fun j hj => (hown.lt j hj).1)
      clear hgrow hown
      go_wp2
      go_roundw
      case rel => exact ⟨k + 1, by omega, by go_num, hown3, hb3⟩
      case measure => simp [intOf]; omega
    · obtain rfl : k = a.length := by omega
      go_wp2
      go_ret
      rw [List.take_of_length_le (Nat.le_refl _)] at hown
      refine ⟨_, rfl, owns_reads (B := w.heap.size) (e := 21) ?_, hbel⟩
      simpa [List.map_map, Function.comp_def] using hown

set_option maxRecDepth 100000 in
set_option maxHeartbeats 4000000 in
theorem renamedC (va vb : Value) (a b : List Int) (c : Int) (w : World) (ha : Reads w .i32 va a) (hb : Reads w .i32 vb b) (wa : ∀ x ∈ a, (Lit.int .i32 x).wf = true) (wb : ∀ x ∈ b, (Lit.int .i32 x).wf = true) :
    Calls Try.prog 9 #[va, vb, .int .i32 c] w fun e w' => e = .returned (.bool true) ∧ Below w.heap.size w w' := by
  have hm : Lev.lev (a.map (turn c)) (b.map (turn c)) = Lev.lev a b := Lev.lev_map (turn c) a b fun x hx y hy h =>
    Lev.xor_inj x y c (by have := wa x hx; simp [Lit.wf, IntKind.min, IntKind.max, IntKind.signed, IntKind.bits] at this; omega) (by have := wb y hy; simp [Lit.wf, IntKind.min, IntKind.max, IntKind.signed, IntKind.bits] at this; omega) h
  have HA := Lib.hid ha
  have HB := Lib.hid hb
  have HM := Lib.hid hm
  obtain ⟨a1, k1, rfl, m1, n1⟩ := reads_len ha
  obtain ⟨a2, k2, rfl, m2, n2⟩ := reads_len hb
  clear ha hb wa wb hm
  unfold maxLen at m1 m2
  by_cases c1 : 25 < a.length
  · go_enter Try.func9, Try.ntmps9
    go_wp2_with (go_at_call 11; refine calls_ext (awakeC _) ?_; intro u)
    go_ret
    exact ⟨rfl, ext_below _ _⟩
  by_cases c2 : 25 < b.length
  · go_enter Try.func9, Try.ntmps9
    go_wp2_with (go_at_call 11; refine calls_ext (awakeC _) ?_; intro u)
    go_ret
    exact ⟨rfl, ext_below _ _⟩
  have e1 := editRunes _ _ a b w HA.out HB.out (by omega) (by omega)
  obtain ⟨Z, hZ⟩ : ∃ Z : Int, Z = (Lev.lev a b : Int) := ⟨_, rfl⟩
  rw [← hZ] at e1
  have HZ := Lib.hid hZ
  clear hZ
  go_enter Try.func9, Try.ntmps9
  go_wp2_with fail
  refine calls_ext e1 ?_
  intro u1
  have hb1 := ext_below w u1
  generalize ext w u1 = w1 at hb1
  go_wp2_with fail
  refine (otherC _ a c w1 (HA.out.below hb1) (by omega)).mono ?_
  rintro e w2 ⟨v2, rfl, hr2, hb2⟩
  have hbb2 := hb1.trans (hb2.mono hb1.size)
  have HR2 := Lib.hid hr2
  clear hr2
  go_wp2_with fail
  refine (otherC _ b c w2 (HB.out.below hbb2) (by omega)).mono ?_
  rintro e w3 ⟨v3, rfl, hr3, hb3⟩
  have hbb3 := hbb2.trans (hb3.mono hbb2.size)
  have HR3 := Lib.hid hr3
  have hr2 := HR2.out.below hb3
  have e2 := editRunes _ _ (a.map (turn c)) (b.map (turn c)) w3 hr2 HR3.out (by simp; omega) (by simp; omega)
  rw [HM.out, ← HZ.out] at e2
  clear hr3 hr2
  go_wp2_with fail
  refine calls_ext e2 ?_
  intro u2
  go_wp2_with (go_at_call 11; refine calls_ext2 (awakeC _) ?_; intro u)
  go_ret
  exact ⟨rfl, below_ext hbb3 (Nat.le_refl _) _⟩
end Go.Proofs.Ytdlihgceokpkkaa
