/-
  The queue in memory of the call's own; what every program answers that is one.
-/
import Derived.Test.YtjamdffaieocmaaQueueStop
namespace Go.Proofs.Ytjamdffaieocmaa
open Go.RowKit Go.ChangeMaps

/-- The queue, all of it from block B on. -/
def QIn (B : Nat) (w : World) (p b : Nat) (L : List AskV) : Prop := ∃ g, QAt w p b g L ∧ B ≤ p ∧ B ≤ b ∧ (∀ x, g = some x → B ≤ x) ∧ B ≤ w.heap.size

theorem QIn.ok {B : Nat} {w : World} {p b : Nat} {L : List AskV} (h : QIn B w p b L) : QOk L := by
  obtain ⟨g, ⟨v, _, _, _, _, _, _, ok⟩, _⟩ := h
  exact ok

theorem QIn.below {B : Nat} {w w' : World} {p b : Nat} {L : List AskV} (h : QIn B w p b L) (hb : Below w.heap.size w w') : QIn B w' p b L := by
  obtain ⟨g, hq, h1, h2, h3, h4⟩ := h
  exact ⟨g, hq.chg (Chg.of_below (S := []) hb) (by simp) (by simp) (by simp), h1, h2, h3, Nat.le_trans h4 hb.size⟩

theorem chg_in {B : Nat} {w w' : World} {p b : Nat} {g : Option Nat} (hc : Chg (p :: b :: g.toList) w w') (h1 : B ≤ p) (h2 : B ≤ b) (h3 : ∀ x, g = some x → B ≤ x) (h4 : B ≤ w.heap.size) : Below B w w' :=
  hc.below (fun x hx => by
    simp only [List.mem_cons] at hx
    rcases hx with rfl | rfl | hx
    · exact h1
    · exact h2
    · cases hg : g with
      | none => rw [hg] at hx; simp at hx
      | some y => rw [hg] at hx; simp at hx; subst hx; exact h3 _ hg) h4

theorem newI (w : World) : Calls Try.prog 9 #[] w fun e w' => e = .returned (.pointer (some ⟨w.heap.size + 1, 0, none⟩)) ∧ (QIn w.heap.size w' (w.heap.size + 1) w.heap.size [] ∧ Below w.heap.size w w') :=
  (newC w).mono fun _ _ ⟨he, hq, hb⟩ => ⟨he, ⟨none, hq, by omega, Nat.le_refl _, fun x hx => (by cases hx), hb.size⟩, hb⟩

theorem pushI {B : Nat} {w : World} {p b : Nat} {L : List AskV} (h : QIn B w p b L) (r : AskV) :
    Calls Try.prog 11 #[.pointer (some ⟨p, 0, none⟩), r.val] w fun e w' => e = .returned (.bool (pushB L r)) ∧ QIn B w' p b (pushL L r) ∧ Below B w w' := by
  obtain ⟨g, hq, h1, h2, h3, h4⟩ := h
  refine (pushC hq r).mono fun e w' ⟨he, g', hq', hc, hg⟩ => ⟨he, ⟨g', hq', h1, h2, fun x hx => ?_, Nat.le_trans h4 hc.size⟩, chg_in hc h1 h2 h3 h4⟩
  rcases hg with e | ⟨y, e, hy⟩
  · exact h3 x (by rw [← e]; exact hx)
  · rw [hx] at e; injection e with e; subst e; omega

theorem lenI {B : Nat} {w : World} {p b : Nat} {L : List AskV} (h : QIn B w p b L) : Calls Try.prog 20 #[.pointer (some ⟨p, 0, none⟩)] w fun e w' => e = .returned (.int .i64 L.length) ∧ w = w' := by
  obtain ⟨g, hq, _⟩ := h
  exact lenC hq

theorem stopI {B : Nat} {w : World} {p b : Nat} {L : List AskV} (h : QIn B w p b L) (slot query : Int) :
    Calls Try.prog 15 #[.pointer (some ⟨p, 0, none⟩), .int .i64 slot, .int .i64 query] w fun e w' => e = .returned (.int .i64 ((L.length : Int) - (stopL L slot query).length)) ∧ QIn B w' p b (stopL L slot query) ∧ Below B w w' := by
  obtain ⟨g, hq, h1, h2, h3, h4⟩ := h
  exact (stopC hq slot query).mono fun e w' ⟨he, hq', hc⟩ => ⟨he, ⟨g, hq', h1, h2, h3, Nat.le_trans h4 hc.size⟩, chg_in hc h1 h2 h3 h4⟩

theorem popI {B : Nat} {w : World} {p b : Nat} {L : List AskV} (h : QIn B w p b L) :
    Calls Try.prog 12 #[.pointer (some ⟨p, 0, none⟩)] w fun e w' => e = .returned (.tuple #[(L.headD default).val, .bool (!L.isEmpty)]) ∧ QIn B w' p b L.tail ∧ Below B w w' := by
  obtain ⟨g, hq, h1, h2, h3, h4⟩ := h
  cases L with
  | nil =>
    refine (popNone hq).mono fun e w' ⟨he, hb⟩ => ⟨he, ?_, hb.mono h4⟩
    exact QIn.below ⟨g, hq, h1, h2, h3, h4⟩ hb
  | cons r L => exact (popSome hq).mono fun e w' ⟨he, hq', hc⟩ => ⟨he, ⟨g, hq', h1, h2, h3, Nat.le_trans h4 hc.size⟩, chg_in hc h1 h2 h3 h4⟩

def ask0 (slot query seq : Int) : AskV := ⟨slot, query, 0, seq, 0, ByteArray.empty, 0, 0, false, 0, ByteArray.empty⟩

set_option maxRecDepth 100000 in
set_option maxHeartbeats 2000000 in
theorem awakeC (w : World) : Calls Try.prog 8 #[] w fun e w' => e = .returned (.bool true) ∧ Below w.heap.size w w' := by
  go_enter Try.func8, Try.ntmps8
  go_wp2_with fail
  refine calls_let (newI w) ?_
  rintro x0 ⟨q0, b0⟩
  generalize hp : w.heap.size + 1 = p at *
  generalize hB : w.heap.size = B at *
  obtain ⟨b, hb⟩ : ∃ b, b = B := ⟨_, rfl⟩
  have q0 : QIn B x0 p b [] := by rw [hb]; exact q0
  have Q0 := Lib.hid q0
  have B0 := Lib.hid b0
  have HB := Lib.hid hB
  clear hp hB hb q0 b0
  have h1 : Calls Try.prog 11 #[.pointer (some ⟨p, 0, none⟩), (.agg #[.int .i64 0, .int .i64 3, .int .i64 0, .int .i64 1, .int .i64 0, .string ByteArray.empty, .int .i64 0, .int .i64 0, .bool false, .int .i64 0, .string ByteArray.empty])] x0 fun e w' => e = .returned (.bool (pushB [] (ask0 0 3 1))) ∧ QIn B w' p b (pushL [] (ask0 0 3 1)) ∧ Below B x0 w' := pushI Q0.out (ask0 0 3 1)
  rw [show pushB [] (ask0 0 3 1) = true by decide, show pushL [] (ask0 0 3 1) = [ask0 0 3 1] by rfl] at h1
  have H1 := Lib.hid h1
  clear h1
  go_wp2_with fail
  refine calls_let H1.out ?_
  rintro x1 ⟨q1, b1⟩
  have Q1 := Lib.hid q1
  have B1 := Lib.hid (B0.out.trans b1)
  clear q1 b1
  have h2 : Calls Try.prog 11 #[.pointer (some ⟨p, 0, none⟩), (.agg #[.int .i64 0, .int .i64 3, .int .i64 0, .int .i64 0, .int .i64 0, .string ByteArray.empty, .int .i64 0, .int .i64 0, .bool false, .int .i64 0, .string ByteArray.empty])] x1 fun e w' => e = .returned (.bool (pushB [ask0 0 3 1] (ask0 0 3 0))) ∧ QIn B w' p b (pushL [ask0 0 3 1] (ask0 0 3 0)) ∧ Below B x1 w' := pushI Q1.out (ask0 0 3 0)
  rw [show pushB [ask0 0 3 1] (ask0 0 3 0) = false by decide, show pushL [ask0 0 3 1] (ask0 0 3 0) = [ask0 0 3 1] by rfl] at h2
  have H2 := Lib.hid h2
  clear h2
  go_wp2_with fail
  refine calls_let H2.out ?_
  rintro x2 ⟨q2, b2⟩
  have Q2 := Lib.hid q2
  have B2 := Lib.hid (B1.out.trans b2)
  clear q2 b2
  have h3 : Calls Try.prog 11 #[.pointer (some ⟨p, 0, none⟩), (.agg #[.int .i64 0, .int .i64 4, .int .i64 0, .int .i64 0, .int .i64 0, .string ByteArray.empty, .int .i64 0, .int .i64 0, .bool false, .int .i64 0, .string ByteArray.empty])] x2 fun e w' => e = .returned (.bool (pushB [ask0 0 3 1] (ask0 0 4 0))) ∧ QIn B w' p b (pushL [ask0 0 3 1] (ask0 0 4 0)) ∧ Below B x2 w' := pushI Q2.out (ask0 0 4 0)
  rw [show pushB [ask0 0 3 1] (ask0 0 4 0) = true by decide, show pushL [ask0 0 3 1] (ask0 0 4 0) = [ask0 0 4 0] by rfl] at h3
  have H3 := Lib.hid h3
  clear h3
  go_wp2_with fail
  refine calls_let H3.out ?_
  rintro x3 ⟨q3, b3⟩
  have Q3 := Lib.hid q3
  have B3 := Lib.hid (B2.out.trans b3)
  clear q3 b3
  have l3 := lenI Q3.out
  have L3 := Lib.hid l3
  clear l3
  go_wp2_with fail
  refine calls_same L3.out ?_
  have h4 : Calls Try.prog 11 #[.pointer (some ⟨p, 0, none⟩), (.agg #[.int .i64 1, .int .i64 0, .int .i64 0, .int .i64 0, .int .i64 0, .string ByteArray.empty, .int .i64 0, .int .i64 0, .bool false, .int .i64 0, .string ByteArray.empty])] x3 fun e w' => e = .returned (.bool (pushB [ask0 0 4 0] (ask0 1 0 0))) ∧ QIn B w' p b (pushL [ask0 0 4 0] (ask0 1 0 0)) ∧ Below B x3 w' := pushI Q3.out (ask0 1 0 0)
  rw [show pushB [ask0 0 4 0] (ask0 1 0 0) = true by decide, show pushL [ask0 0 4 0] (ask0 1 0 0) = [ask0 0 4 0, ask0 1 0 0] by rfl] at h4
  have H4 := Lib.hid h4
  clear h4
  go_wp2_with fail
  refine calls_let H4.out ?_
  rintro x4 ⟨q4, b4⟩
  have Q4 := Lib.hid q4
  have B4 := Lib.hid (B3.out.trans b4)
  clear q4 b4
  have h5 := stopI Q4.out 0 4
  rw [show stopL [ask0 0 4 0, ask0 1 0 0] 0 4 = [ask0 1 0 0] by rfl] at h5
  have H5 := Lib.hid h5
  clear h5
  go_wp2_with fail
  refine calls_let H5.out ?_
  rintro x5 ⟨q5, b5⟩
  have B5 := Lib.hid (B4.out.trans b5)
  have l5 := lenI q5
  have L5 := Lib.hid l5
  clear q5 b5 l5
  go_wp2_with fail
  refine calls_same L5.out ?_
  go_wp2
  go_ret
  exact ⟨rfl, HB.out ▸ B5.out⟩

end Go.Proofs.Ytjamdffaieocmaa
