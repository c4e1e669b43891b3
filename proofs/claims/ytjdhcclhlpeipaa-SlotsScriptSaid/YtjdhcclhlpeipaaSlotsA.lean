/-
  Slots: what every program answers that is one.
-/
import Derived.Test.YtjdhcclhlpeipaaSlotsS
namespace Go.Proofs.Ytjdhcclhlpeipaa
open Go.RowKit Go.ChangeMaps Utf

set_option maxRecDepth 100000 in
set_option maxHeartbeats 2000000 in
theorem awakeC (w : World) : Calls Try.prog 8 #[] w fun e w' => e = .returned (.bool true) ∧ Below w.heap.size w w' := by
  have m1 : mayV ⟨#[97]⟩ 1 1 = true := by decide +kernel
  have m2 : mayV ByteArray.empty 0 0 = false := by decide +kernel
  go_enter Try.func8, Try.ntmps8
  go_wp2_with fail
  refine calls_let (newC 1 w (by decide) (by decide)) ?_
  rintro x ⟨hx, hb⟩
  have hp : w.heap.size + 2 < x.heap.size := hx.cells.1
  generalize hP : w.heap.size + 2 = p at *
  generalize hA : w.heap.size + 1 = b at *
  have hge : w.heap.size ≤ p ∧ w.heap.size ≤ b := by omega
  have hne : w.heap.size < x.heap.size := by omega
  generalize hN : w.heap.size = a at *
  have HX := Lib.hid hx
  have HB := Lib.hid hb
  have HN := Lib.hid hN
  clear hP hA hx hb hN
  go_wp2_with fail
  obtain ⟨y, hy⟩ : ∃ y, y = x.alloc (.cells #[.string ⟨#[97]⟩, .int .i64 1, .int .i64 1] 32) := ⟨_, rfl⟩
  rw [← hy]
  have gy : Chg ([] : List Nat) x y := hy ▸ (Chg.refl _ _).alloc _
  have qy : y.heap[x.heap.size]? = some (.cells #[.string ⟨#[97]⟩, .int .i64 1, .int .i64 1] 32 (0, 0)) := hy ▸ heap_alloc_new _ _
  have sy := HX.out.chg gy (by simp) (by simp) (by simp)
  have hqp : x.heap.size ∉ [p, a, b] := by
    have h1 := HX.out.1
    have h2 := lt_of_block h1
    have h3 := HX.out.2.1.lt
    have h4 := HX.out.2.2.1.lt
    simp; omega
  generalize x.heap.size = q at *
  clear hy
  have h1 := submitC sy ⟨#[97]⟩ 1 1 (by decide) (by decide)
  rw [m1, show subR true (List.replicate (Int.toNat 1) 0) 0 = (3, 1, 0) by decide, show subW true (List.replicate (Int.toNat 1) 0) 0 = [1] by decide, show subL true (List.replicate (Int.toNat 1) 0) 0 = 1 by decide] at h1
  refine calls_let h1 ?_
  rintro z ⟨sz, gz⟩
  have qz := gz.at qy hqp
  have q0 : z.cell? ⟨q, 0, none⟩ = some (.string ⟨#[97]⟩) := by simp [World.cell?, qz]
  have q1 : z.cell? ⟨q, 1, none⟩ = some (.int .i64 1) := by simp [World.cell?, qz]
  have q2 : z.cell? ⟨q, 2, none⟩ = some (.int .i64 1) := by simp [World.cell?, qz]
  have GZ := Lib.hid ((gy.mono (by simp)).trans gz : Chg [p, a, b] x z)
  have h2 := submitC sz ⟨#[97]⟩ 1 1 (by decide) (by decide)
  rw [m1, show subR true [1] 1 = (2, 0, 0) by decide, show subW true [1] 1 = [1] by decide, show subL true [1] 1 = 1 by decide] at h2
  have H2 := Lib.hid h2
  clear h1 h2 sz sy qz qy gy gz
  go_wp2_with fail
  refine calls_let H2.out ?_
  rintro z2 ⟨sz2, gz2⟩
  have h3 := submitC sz2 ByteArray.empty 0 0 (by decide) (by decide)
  rw [m2, show subR false [1] 1 = (1, 0, 0) by decide, show subW false [1] 1 = [1] by decide, show subL false [1] 1 = 1 by decide] at h3
  have H3 := Lib.hid h3
  have GZ2 := Lib.hid (GZ.out.trans gz2)
  clear h3 sz2 gz2 H2 GZ q0 q1 q2
  go_wp2_with fail
  refine calls_let H3.out ?_
  rintro z3 ⟨sz3, gz3⟩
  have h4 := freeC sz3 1 (wfI_of (by decide) (by decide))
  rw [show ofF [1] 1 = some 0 by decide] at h4
  have H4 := Lib.hid h4
  have GZ3 := Lib.hid (GZ2.out.trans gz3)
  clear h4 sz3 gz3 GZ2 H3
  go_wp2_with fail
  refine calls_let H4.out ?_
  rintro z4 ⟨sz4, gz4⟩
  have h5 := lastC sz4
  have H5 := Lib.hid h5
  have GZ4 := Lib.hid (GZ3.out.trans gz4)
  clear h5 sz4 gz4 GZ3 H4
  go_wp2_with fail
  refine calls_same H5.out ?_
  go_wp2
  go_ret
  rw [HN.out]
  exact ⟨rfl, HB.out.trans (GZ4.out.below (by simp; omega) (by have := HB.out.size; rw [HN.out] at this; exact this))⟩

end Go.Proofs.Ytjdhcclhlpeipaa
