/-
  The net: what every program answers that is one.
-/
import Derived.Test.YtphoijlpgplnkaaNetDeliverC
import Derived.Test.YtphoijlpgplnkaaSameBytes
namespace Go.Proofs.Ytphoijlpgplnkaa
open Go.RowKit Go.ChangeMaps

theorem reads_one (w : World) (b : Int) (t : TypeId) : Reads (w.alloc (.cells #[.int .u8 b] t)) .u8 (.slice (some ⟨w.heap.size, 0, none⟩) 1 1) [b] :=
  reads_lit w .u8 t [b] (by show 1 ≤ maxLen; decide) #[.int .u8 b] rfl

set_option maxRecDepth 100000 in
set_option maxHeartbeats 2000000 in
theorem awakeC (w : World) : Calls Try.prog 13 #[] w fun e w' => e = .returned (.bool true) ∧ Below w.heap.size w w' := by
  go_enter Try.func13, Try.ntmps13
  go_wp2_with fail
  refine calls_let (newN w 2 (by decide) (by decide)) ?_
  rintro x0 ⟨q0, b0⟩
  obtain ⟨p, hp⟩ : ∃ p, p = w.heap.size := ⟨_, rfl⟩
  obtain ⟨B, hB⟩ : ∃ B, B = w.heap.size := ⟨_, rfl⟩
  rw [← hp]
  have q1 : NF B [] x0 p 2 0 [] := by rw [hB, hp]; exact q0
  have b1 : Below B w x0 := by rw [hB]; exact b0
  have q2 := q1.chg ((Chg.refl [] x0).alloc (.cells #[.int .u8 5] 5 (0, 0)))
  have b2 := b1.alloc q1.size (.cells #[.int .u8 5] 5 (0, 0))
  have s1 := sendC q2 (by decide) 0 1 _ [5] (reads_one x0 5 5) (by decide)
  have hr1 : sendL 2 [] ⟨0, 0, 1, [5], false⟩ = [⟨0, 0, 1, [5], false⟩] := by kernel_rfl
  rw [hr1, show decide ((([] : List GV).length : Int) < 2) = true by decide] at s1
  have S1 := Lib.hid s1
  have B2 := Lib.hid b2
  have HB := Lib.hid hB
  clear q0 b0 hp hB q1 b1 q2 b2 s1
  go_wp2_with fail
  refine calls_let S1.out ?_
  rintro x1 ⟨q3, b3, _⟩
  have s2 := sendC q3 (by decide) 1 0 (.slice none 0 0) [] (reads_nil _ _) (by decide)
  have hr2 : sendL 2 [⟨0, 0, 1, [5], false⟩] ⟨0 + 1, 1, 0, [], false⟩ = [⟨0, 0, 1, [5], false⟩, ⟨1, 1, 0, [], false⟩] := by kernel_rfl
  rw [hr2, show decide ((([⟨0, 0, 1, [5], false⟩] : List GV).length : Int) < 2) = true by decide] at s2
  have S2 := Lib.hid s2
  have B3 := Lib.hid (B2.out.trans b3)
  clear q3 b3 s2
  go_wp2_with fail
  refine calls_let S2.out ?_
  rintro x2 ⟨q4, b4, _⟩
  have s3 := sendC q4 (by decide) 0 1 (.slice none 0 0) [] (reads_nil _ _) (by decide)
  have hr3 : sendL 2 [⟨0, 0, 1, [5], false⟩, ⟨1, 1, 0, [], false⟩] ⟨0 + 1 + 1, 0, 1, [], false⟩ = [⟨0, 0, 1, [5], false⟩, ⟨1, 1, 0, [], false⟩] := by kernel_rfl
  rw [hr3, show decide ((([⟨0, 0, 1, [5], false⟩, ⟨1, 1, 0, [], false⟩] : List GV).length : Int) < 2) = false by decide] at s3
  have S3 := Lib.hid s3
  have B4 := Lib.hid (B3.out.trans b4)
  clear q4 b4 s3
  go_wp2_with fail
  refine calls_let S3.out ?_
  rintro x3 ⟨q5, b5, _⟩
  have s4 : Calls Try.prog 10 #[.pointer (some ⟨p, 0, none⟩), .int .i64 0] x3 fun e w' => ∃ fv, e = .returned (.tuple #[.agg #[.int .i64 0, .int .i64 0, .int .i64 1, fv, .bool false], .bool true]) ∧ ∃ fb, Seg w' 5 1 fb fv (byC [5]) 1 ∧ NF B (fb.toList ++ []) w' p 2 3 [⟨1, 1, 0, [], false⟩] ∧ Below B x3 w' ∧ Kept [] x3 w' := deliverYes q5 0 (by decide)
  have S4 := Lib.hid s4
  have B5 := Lib.hid (B4.out.trans b5)
  clear q5 b5 s4
  go_wp2_with fail
  refine S4.out.mono ?_
  rintro e x4 ⟨fv, rfl, fb, sf, q6, b6, _⟩
  obtain ⟨fa, fc, rfl, _⟩ := sf.len
  have hrd := seg_reads (bs := [5]) sf
  have sb := sameBytes _ _ [5] [5] _ ((hrd.alloc (.cells #[.int .i64 0, .int .i64 0, .int .i64 1, .slice fa 1 fc, .bool false] 31 (0, 0))).alloc (.cells #[.int .u8 5] 5 (0, 0))) (reads_one (x4.alloc (.cells #[.int .i64 0, .int .i64 0, .int .i64 1, .slice fa 1 fc, .bool false] 31 (0, 0))) 5 5)
  simp only [decide_true] at sb
  have q7 := (q6.mono (F' := []) (by simp)).chg (((Chg.refl [] x4).alloc (.cells #[.int .i64 0, .int .i64 0, .int .i64 1, .slice fa 1 fc, .bool false] 31 (0, 0))).alloc (.cells #[.int .u8 5] 5 (0, 0)))
  have b7 := ((B5.out.trans b6).alloc q6.size (.cells #[.int .i64 0, .int .i64 0, .int .i64 1, .slice fa 1 fc, .bool false] 31 (0, 0))).alloc (by have := q6.size; simp; omega) (.cells #[.int .u8 5] 5 (0, 0))
  have SB := Lib.hid sb
  have Q7 := Lib.hid q7
  have B7 := Lib.hid b7
  clear sf q6 b6 hrd sb q7 b7
  go_wp2_with fail
  simp only [World.size_alloc] at SB
  refine calls_let SB.out ?_
  intro x5 b8
  have q8 := Q7.out.chg (Chg.of_below (S := []) (by simpa using b8))
  have B8 := Lib.hid (B7.out.trans (b8.mono (by have := Q7.out.size; simpa using this)))
  have L8 := Lib.hid (lenN q8)
  clear q8 b8
  go_wp2_with fail
  refine calls_same L8.out ?_
  go_wp2
  go_ret
  exact ⟨rfl, HB.out ▸ B8.out⟩

end Go.Proofs.Ytphoijlpgplnkaa
