/-
  The queue beside blocks of others: what each call leaves as it was.
-/
import Derived.Test.YtjamdffaieocmaaQueueIn
namespace Go.Proofs.Ytjamdffaieocmaa
open Go.RowKit Go.ChangeMaps

/-- The queue from block B on; the blocks of F are others'. -/
def QF (B : Nat) (F : List Nat) (w : World) (p b : Nat) (L : List AskV) : Prop :=
  ∃ g, QAt w p b g L ∧ B ≤ p ∧ B ≤ b ∧ (∀ x, g = some x → B ≤ x) ∧ B ≤ w.heap.size ∧ ∀ x ∈ F, x < w.heap.size ∧ x ≠ p ∧ x ≠ b ∧ g ≠ some x

def Kept (F : List Nat) (w w' : World) : Prop := ∀ x ∈ F, w'.heap[x]? = w.heap[x]?

theorem Kept.trans {F : List Nat} {w w' w'' : World} (h : Kept F w w') (h' : Kept F w' w'') : Kept F w w'' := fun x hx => (h' x hx).trans (h x hx)

theorem QF.ok {B : Nat} {F : List Nat} {w : World} {p b : Nat} {L : List AskV} (h : QF B F w p b L) : QOk L := by
  obtain ⟨g, ⟨v, _, _, _, _, _, _, ok⟩, _⟩ := h
  exact ok

theorem QF.size {B : Nat} {F : List Nat} {w : World} {p b : Nat} {L : List AskV} (h : QF B F w p b L) : B ≤ w.heap.size := by
  obtain ⟨g, _, _, _, _, h, _⟩ := h
  exact h

theorem QF.of {B : Nat} {w : World} {p b : Nat} {L : List AskV} (h : QIn B w p b L) : QF B [] w p b L := by
  obtain ⟨g, hq, h1, h2, h3, h4⟩ := h
  exact ⟨g, hq, h1, h2, h3, h4, by simp⟩

theorem QF.mono {B : Nat} {F F' : List Nat} {w : World} {p b : Nat} {L : List AskV} (h : QF B F w p b L) (hF : ∀ x ∈ F', x ∈ F) : QF B F' w p b L := by
  obtain ⟨g, hq, h1, h2, h3, h4, h5⟩ := h
  exact ⟨g, hq, h1, h2, h3, h4, fun x hx => h5 x (hF x hx)⟩

theorem QF.lt {B : Nat} {F : List Nat} {w : World} {p b x : Nat} {L : List AskV} (h : QF B F w p b L) (hx : x ∈ F) : x < w.heap.size := by
  obtain ⟨g, hq, h1, h2, h3, h4, h5⟩ := h
  exact (h5 x hx).1

/-- Others' blocks turn, and new ones come. -/
theorem QF.chg {B : Nat} {F : List Nat} {w w' : World} {p b : Nat} {L : List AskV} (h : QF B F w p b L) (hc : Chg F w w') : QF B F w' p b L := by
  obtain ⟨g, hq, h1, h2, h3, h4, h5⟩ := h
  exact ⟨g, hq.chg hc (fun e => (h5 p e).2.1 rfl) (fun e => (h5 b e).2.2.1 rfl) (fun x hx e => (h5 x e).2.2.2 hx), h1, h2, h3, Nat.le_trans h4 hc.size, fun x hx => ⟨Nat.lt_of_lt_of_le (h5 x hx).1 hc.size, (h5 x hx).2⟩⟩

theorem QF.lt_own {B : Nat} {F : List Nat} {w : World} {p b : Nat} {L : List AskV} (h : QF B F w p b L) : ∃ g, p < w.heap.size ∧ b < w.heap.size ∧ (∀ x, g = some x → x < w.heap.size) ∧ QAt w p b g L := by
  obtain ⟨g, hq, _⟩ := h
  obtain ⟨v, q1, q2, q3, _⟩ := id hq
  exact ⟨g, lt_of_block q1, q3.lt, fun x hx => q2.lt x hx, hq⟩

/-- A block that has come since. -/
theorem QF.add {B : Nat} {F : List Nat} {w w' : World} {p b x : Nat} {L : List AskV} (h : QF B F w p b L) (hc : Chg F w w') (hx : w.heap.size ≤ x) (hx2 : x < w'.heap.size) : QF B (x :: F) w' p b L := by
  have h' := h.chg hc
  obtain ⟨g0, hq0, _⟩ := id h
  obtain ⟨v, q1, q2, q3, _⟩ := id hq0
  obtain ⟨g, hq, h1, h2, h3, h4, h5⟩ := h
  obtain ⟨v', q1', q2', q3', _⟩ := id hq
  have e1 := lt_of_block q1'
  have e2 := q3'.lt
  refine ⟨g, hq.chg hc (fun e => (h5 p e).2.1 rfl) (fun e => (h5 b e).2.2.1 rfl) (fun y hy e => (h5 y e).2.2.2 hy), h1, h2, h3, Nat.le_trans h4 hc.size, fun y hy => ?_⟩
  rcases List.mem_cons.1 hy with rfl | hy
  · refine ⟨hx2, by omega, by omega, fun e => ?_⟩
    have := q2'.lt y e
    omega
  · exact ⟨Nat.lt_of_lt_of_le (h5 y hy).1 hc.size, (h5 y hy).2⟩

theorem Seg.kept {w w' : World} {e sz : Nat} {g : Option Nat} {v : Value} {cs : List Value} {n : Nat} (h : Seg w e sz g v cs n) (hc : Kept g.toList w w') : Seg w' e sz g v cs n := by
  obtain ⟨hl, h | ⟨b, off, cap, cur, rfl, hv, hh, r⟩⟩ := h
  · exact ⟨hl, .inl h⟩
  · exact ⟨hl, .inr ⟨b, off, cap, cur, rfl, hv, (hc b (by simp)).trans hh, r⟩⟩

theorem Kept.mono {F F' : List Nat} {w w' : World} (h : Kept F w w') (hF : ∀ x ∈ F', x ∈ F) : Kept F' w w' := fun x hx => h x (hF x hx)
theorem Kept.of_chg {F S : List Nat} {w w' : World} (h : Chg S w w') (h1 : ∀ x ∈ F, x < w.heap.size) (h2 : ∀ x ∈ F, x ∉ S) : Kept F w w' := fun x hx => h.block x (h1 x hx) (h2 x hx)

theorem newF (w : World) : Calls Try.prog 9 #[] w fun e w' => e = .returned (.pointer (some ⟨w.heap.size + 1, 0, none⟩)) ∧ (QF w.heap.size [] w' (w.heap.size + 1) w.heap.size [] ∧ Below w.heap.size w w') :=
  (newI w).mono fun _ _ ⟨he, hq, hb⟩ => ⟨he, QF.of hq, hb⟩

theorem kept_of {F : List Nat} {w w' : World} {p b : Nat} {g : Option Nat} (hc : Chg (p :: b :: g.toList) w w') (h5 : ∀ x ∈ F, x < w.heap.size ∧ x ≠ p ∧ x ≠ b ∧ g ≠ some x) : Kept F w w' :=
  Kept.of_chg hc (fun x hx => (h5 x hx).1) (fun x hx e => by
    obtain ⟨_, e1, e2, e3⟩ := h5 x hx
    simp only [List.mem_cons, Option.mem_toList] at e
    rcases e with e | e | e
    · exact e1 e
    · exact e2 e
    · exact e3 e)

theorem pushF {B : Nat} {F : List Nat} {w : World} {p b : Nat} {L : List AskV} (h : QF B F w p b L) (r : AskV) :
    Calls Try.prog 11 #[.pointer (some ⟨p, 0, none⟩), r.val] w fun e w' => e = .returned (.bool (pushB L r)) ∧ QF B F w' p b (pushL L r) ∧ Below B w w' ∧ Kept F w w' := by
  obtain ⟨g, hq, h1, h2, h3, h4, h5⟩ := h
  refine (pushC hq r).mono fun e w' ⟨he, g', hq', hc, hg⟩ => ⟨he, ⟨g', hq', h1, h2, fun x hx => ?_, Nat.le_trans h4 hc.size, fun x hx => ?_⟩, chg_in hc h1 h2 h3 h4, kept_of hc h5⟩
  · rcases hg with e | ⟨y, e, hy⟩
    · exact h3 x (by rw [← e]; exact hx)
    · rw [hx] at e; injection e with e; subst e; omega
  · obtain ⟨e0, e1, e2, e3⟩ := h5 x hx
    refine ⟨Nat.lt_of_lt_of_le e0 hc.size, e1, e2, ?_⟩
    rcases hg with e | ⟨y, e, hy⟩
    · rw [e]; exact e3
    · rw [e]
      intro e'
      injection e' with e'
      omega

theorem lenF {B : Nat} {F : List Nat} {w : World} {p b : Nat} {L : List AskV} (h : QF B F w p b L) : Calls Try.prog 20 #[.pointer (some ⟨p, 0, none⟩)] w fun e w' => e = .returned (.int .i64 L.length) ∧ w = w' := by
  obtain ⟨g, hq, _⟩ := h
  exact lenC hq

theorem stopF {B : Nat} {F : List Nat} {w : World} {p b : Nat} {L : List AskV} (h : QF B F w p b L) (slot query : Int) :
    Calls Try.prog 15 #[.pointer (some ⟨p, 0, none⟩), .int .i64 slot, .int .i64 query] w fun e w' => e = .returned (.int .i64 ((L.length : Int) - (stopL L slot query).length)) ∧ QF B F w' p b (stopL L slot query) ∧ Below B w w' ∧ Kept F w w' := by
  obtain ⟨g, hq, h1, h2, h3, h4, h5⟩ := h
  exact (stopC hq slot query).mono fun e w' ⟨he, hq', hc⟩ => ⟨he, ⟨g, hq', h1, h2, h3, Nat.le_trans h4 hc.size, fun x hx => ⟨Nat.lt_of_lt_of_le (h5 x hx).1 hc.size, (h5 x hx).2⟩⟩, chg_in hc h1 h2 h3 h4, kept_of hc h5⟩

theorem popF {B : Nat} {F : List Nat} {w : World} {p b : Nat} {L : List AskV} (h : QF B F w p b L) :
    Calls Try.prog 12 #[.pointer (some ⟨p, 0, none⟩)] w fun e w' => e = .returned (.tuple #[(L.headD default).val, .bool (!L.isEmpty)]) ∧ QF B F w' p b L.tail ∧ Below B w w' ∧ Kept F w w' := by
  obtain ⟨g, hq, h1, h2, h3, h4, h5⟩ := h
  cases L with
  | nil =>
    refine (popNone hq).mono fun e w' ⟨he, hb⟩ => ⟨he, ?_, hb.mono h4, Kept.of_chg (S := []) (Chg.of_below hb) (fun x hx => (h5 x hx).1) (by simp)⟩
    exact QF.chg (F := F) ⟨g, hq, h1, h2, h3, h4, h5⟩ (Chg.of_below hb)
  | cons r L => exact (popSome hq).mono fun e w' ⟨he, hq', hc⟩ => ⟨he, ⟨g, hq', h1, h2, h3, Nat.le_trans h4 hc.size, fun x hx => ⟨Nat.lt_of_lt_of_le (h5 x hx).1 hc.size, (h5 x hx).2⟩⟩, chg_in hc h1 h2 h3 h4, kept_of hc h5⟩

theorem allF {B : Nat} {F : List Nat} {w : World} {p b : Nat} {L : List AskV} (h : QF B F w p b L) :
    Calls Try.prog 14 #[.pointer (some ⟨p, 0, none⟩)] w fun e w' => ∃ v, e = .returned v ∧ ∃ g', Seg w' 32 11 g' v (askC L) L.length ∧ (∀ x, g' = some x → w.heap.size ≤ x) ∧ QF B (g'.toList ++ F) w' p b L ∧ Below w.heap.size w w' := by
  have H := h
  obtain ⟨g, hq, h1, h2, h3, h4, h5⟩ := h
  refine (allC hq).mono fun e w' ⟨v, he, ⟨g', hs, hg⟩, hb⟩ => ⟨v, he, g', hs, hg, ?_, hb⟩
  cases g' with
  | none => exact H.chg (Chg.of_below hb)
  | some x => exact H.add (Chg.of_below hb) (hg x rfl) (hs.lt x rfl)

end Go.Proofs.Ytjamdffaieocmaa
