/-
  NetNone, walked.
-/
import Derived.Test.YtphoijlpgplnkaaNetNil
import Derived.Test.YtphoijlpgplnkaaNetAwake
import Derived.Test.YtphoijlpgplnkaaNetSame
import Derived.Test.YtphoijlpgplnkaaNetAct
namespace Go.Proofs.Ytphoijlpgplnkaa
open Go.RowKit Go.ChangeMaps

theorem grd_lit {w : World} {b : Nat} (h : w.heap[b]? = some (.cells #[.int .i64 0, .int .i64 0, .int .i64 0, .slice none 0 0, .bool false] 31 (0, 0))) : GRd w (.slice (some ⟨b, 0, none⟩) 1 1) [⟨gram0, .slice none 0 0, none⟩] := by
  refine ⟨_, 1, rfl, by show 1 ≤ maxLen; decide, by simp, fun i hi => ?_, fun m hm => ?_⟩
  · simp at hi
    subst hi
    refine ⟨b, 0, rfl, lt_of_block h, fun j u hu => ?_⟩
    simp only [World.cell?, h, Nat.zero_mul, Nat.zero_add]
    rw [List.getElem?_toArray]
    have hu' : ([.int .i64 0, .int .i64 0, .int .i64 0, .slice none 0 0, .bool false] : List Value)[j]? = some u := hu
    rw [hu']
    rfl
  · simp only [List.mem_singleton] at hm
    subst hm
    exact reads_nil _ _

set_option maxRecDepth 100000 in
set_option maxHeartbeats 4000000 in
theorem noneC (x : ActV) (w : World) (hok : x.ok w) : Calls Try.prog 6 #[.agg x.cells.toArray] w fun e w' => e = .returned (.bool true) ∧ Below w.heap.size w w' := by
  obtain ⟨d, i, j, y, bv, bs⟩ := x
  obtain ⟨ba, bc, hbv, hbm, hbc⟩ := reads_len hok
  simp only at hbv hbm hbc
  subst hbv
  unfold maxLen at hbm
  show Calls Try.prog 6 #[.agg #[.int .i64 d, .int .i64 i, .int .i64 j, .int .i64 y, .slice ba bs.length bc]] w _
  obtain ⟨u, hu⟩ : ∃ u, u = w.alloc (.cells #[.int .i64 d, .int .i64 i, .int .i64 j, .int .i64 y, .slice ba bs.length bc] 42 (0, 0)) := ⟨_, rfl⟩
  have hua : u.heap[w.heap.size]? = some (.cells #[.int .i64 d, .int .i64 i, .int .i64 j, .int .i64 y, .slice ba bs.length bc] 42 (0, 0)) := hu ▸ heap_alloc_new _ _
  have hub : Below w.heap.size w u := hu ▸ (Below.refl _ _).alloc (Nat.le_refl _) _
  have hul := lt_of_block hua
  have c1 : u.cell? ⟨w.heap.size, 1, none⟩ = some (.int .i64 i) := by simp [World.cell?, hua]
  have c2 : u.cell? ⟨w.heap.size, 2, none⟩ = some (.int .i64 j) := by simp [World.cell?, hua]
  have c4 : u.cell? ⟨w.heap.size, 4, none⟩ = some (.slice ba bs.length bc) := by simp [World.cell?, hua]
  have HU := Lib.hid hu
  have HUA := Lib.hid hua
  have HUB := Lib.hid hub
  clear hu hua hub hok
  by_cases hg : 100 < bs.length
  · go_enter Try.func6, Try.ntmps6
    go_upto_region 1 with fail
    rw [← HU.out]
    go_wp2_with fail
    refine calls_let (awakeC _) ?_
    intro x hx
    have HX := Lib.hid (HUB.out.trans (hx.mono HUB.out.size))
    clear hx
    go_wp2
    go_ret
    exact ⟨rfl, HX.out⟩
  go_enter Try.func6, Try.ntmps6
  go_upto_region 1 with fail
  rw [← HU.out]
  clear HU
  go_wp2_with fail
  refine calls_same (sendNil _ _ _ _) ?_
  go_wp2_with fail
  refine calls_let (deliverNilC u i) ?_
  intro x1 b1
  obtain ⟨x2, hx2⟩ : ∃ y, y = x1.alloc (.cells #[.int .i64 0, .int .i64 0, .int .i64 0, .slice none 0 0, .bool false] 31 (0, 0)) := ⟨_, rfl⟩
  have g2 : Chg ([] : List Nat) u x2 := hx2 ▸ (Chg.of_below b1).alloc _
  have h2 : x2.heap[x1.heap.size]? = some (.cells #[.int .i64 0, .int .i64 0, .int .i64 0, .slice none 0 0, .bool false] 31 (0, 0)) := hx2 ▸ heap_alloc_new _ _
  have h2a := g2.at HUA.out (by simp)
  have e1 : x2.cell? ⟨w.heap.size, 1, none⟩ = some (.int .i64 i) := by simp [World.cell?, h2a]
  have h2l := lt_of_block h2a
  have HX2 := Lib.hid hx2
  have G2 := Lib.hid g2
  have H2 := Lib.hid h2
  clear b1 hx2 g2 h2 h2a
  go_upto_region 6 with fail
  rw [← HX2.out]
  clear HX2 c1 c2 c4 hul
  go_wp2_with fail
  refine calls_let (dropNil x2 i) ?_
  intro x3 b3
  have g3 : Chg ([] : List Nat) u x3 := G2.out.trans (Chg.of_below b3)
  have h3a := g3.at HUA.out (by simp)
  have h3g := (Chg.of_below (S := []) b3).at H2.out (by simp)
  have h3l := lt_of_block h3a
  have h3gl := lt_of_block h3g
  have m0 : x3.cell? ⟨x1.heap.size, 0, none⟩ = some (.int .i64 0) := by simp [World.cell?, h3g]
  have m1 : x3.cell? ⟨x1.heap.size, 1, none⟩ = some (.int .i64 0) := by simp [World.cell?, h3g]
  have m2 : x3.cell? ⟨x1.heap.size, 2, none⟩ = some (.int .i64 0) := by simp [World.cell?, h3g]
  have m3 : x3.cell? ⟨x1.heap.size, 3, none⟩ = some (.slice none 0 0) := by simp [World.cell?, h3g]
  have m4 : x3.cell? ⟨x1.heap.size, 4, none⟩ = some (.bool false) := by simp [World.cell?, h3g]
  obtain ⟨x4, hx4⟩ : ∃ y, y = (x3.alloc (.cells #[.int .i64 0, .int .i64 0, .int .i64 0, .slice none 0 0, .bool false] 31 (0, 0))).alloc (.cells #[.int .i64 0, .int .i64 0, .int .i64 0, .slice none 0 0, .bool false] 31 (0, 0)) := ⟨_, rfl⟩
  have g4 : Chg ([] : List Nat) u x4 := hx4 ▸ (g3.alloc _).alloc _
  have n1 : x4.heap[x3.heap.size]? = some (.cells #[.int .i64 0, .int .i64 0, .int .i64 0, .slice none 0 0, .bool false] 31 (0, 0)) := by
    rw [hx4, Below.heap_alloc _ _ _ (by simp)]
    exact heap_alloc_new _ _
  have n2 : x4.heap[x3.heap.size + 1]? = some (.cells #[.int .i64 0, .int .i64 0, .int .i64 0, .slice none 0 0, .bool false] 31 (0, 0)) := by
    rw [hx4]
    have := heap_alloc_new (x3.alloc (.cells #[.int .i64 0, .int .i64 0, .int .i64 0, .slice none 0 0, .bool false] 31 (0, 0))) (.cells #[.int .i64 0, .int .i64 0, .int .i64 0, .slice none 0 0, .bool false] 31 (0, 0))
    simpa using this
  have hsg : Calls Try.prog 25 #[.slice (some ⟨x3.heap.size, 0, none⟩) 1 1, .slice (some ⟨x3.heap.size + 1, 0, none⟩) 1 1] x4 fun e w' => e = .returned (.bool true) ∧ Below x4.heap.size x4 w' :=
    (sameGramsQ (grd_lit n1) (grd_lit n2)).mono fun e w' ⟨he, m, hm⟩ => ⟨by rw [he]; simp, by rw [hm]; exact (chg_drewN x4 m).nil_below⟩
  have HSG := Lib.hid hsg
  have HX4 := Lib.hid hx4
  have G4 := Lib.hid g4
  clear b3 g3 h3a h3g hsg hx4 g4 n1 n2 e1 h2l
  go_wp2_with fail
  rw [← HX4.out]
  clear HX4
  refine calls_let HSG.out ?_
  intro x5 b5
  have g5 : Chg ([] : List Nat) u x5 := G4.out.trans (Chg.of_below b5)
  have h5a := g5.at HUA.out (by simp)
  have h5l := lt_of_block h5a
  have f1 : x5.cell? ⟨w.heap.size, 1, none⟩ = some (.int .i64 i) := by simp [World.cell?, h5a]
  have G5 := Lib.hid g5
  clear b5 g5 h5a m0 m1 m2 m3 m4
  go_wp2_with fail
  refine calls_let (doubleNil x5 i) ?_
  intro x6 b6
  have g6 : Chg ([] : List Nat) u x6 := G5.out.trans (Chg.of_below b6)
  have h6a := g6.at HUA.out (by simp)
  have h6l := lt_of_block h6a
  have q1 : x6.cell? ⟨w.heap.size, 1, none⟩ = some (.int .i64 i) := by simp [World.cell?, h6a]
  have q2 : x6.cell? ⟨w.heap.size, 2, none⟩ = some (.int .i64 j) := by simp [World.cell?, h6a]
  have q3 : x6.cell? ⟨w.heap.size, 3, none⟩ = some (.int .i64 y) := by simp [World.cell?, h6a]
  have G6 := Lib.hid g6
  clear b6 g6 h6a f1 h5l
  go_wp2_with fail
  refine calls_let (spoilNil x6 i j y) ?_
  intro x7 b7
  have G7 := Lib.hid (G6.out.trans (Chg.of_below b7))
  clear b7 q1 q2 q3 h6l
  go_wp2_with fail
  refine calls_same (lenNilN x7) ?_
  go_wp2_with fail
  refine calls_same (listNil x7) ?_
  go_wp2_with fail
  refine calls_let (awakeC x7) ?_
  intro x8 b8
  have HF := Lib.hid ((HUB.out.trans (G7.out.nil_below.mono HUB.out.size)).trans (b8.mono (Nat.le_trans HUB.out.size G7.out.size)))
  clear b8
  go_wp2
  go_ret
  exact ⟨rfl, HF.out⟩

end Go.Proofs.Ytphoijlpgplnkaa
