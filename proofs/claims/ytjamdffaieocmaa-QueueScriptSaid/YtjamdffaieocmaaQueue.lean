/-
  The queue: contracts of New, Len, Push.
-/
import Derived.Test.YtjamdffaieocmaaQueueP
import Derived.Test.YtjamdffaieocmaaSeg
import Derived.Test.YtjamdffaieocmaaSl
import Derived.BigRegion
import Derived.Outline
import Derived.Deep.RegionHeld3
namespace Go.Proofs.Ytjamdffaieocmaa
open Go.RowKit Go.ChangeMaps

def plc (L : List AskV) : List Value := L.flatMap (fun r => [.int .i64 r.slot, .int .i64 r.shard])

theorem plc_len (L : List AskV) : (plc L).length = L.length * 2 := by
  induction L with
  | nil => rfl
  | cons a l ih => simp only [plc, List.flatMap_cons] at *; simp [ih]; omega

theorem plc_app (L : List AskV) (a : AskV) : plc (L ++ [a]) = plc L ++ [.int .i64 a.slot, .int .i64 a.shard] := by simp [plc]

theorem plc_get (L : List AskV) (i : Nat) (h : i < L.length) : (plc L)[i * 2 + 0]? = some (.int .i64 (L.getD i default).slot) ∧ (plc L)[i * 2 + 1]? = some (.int .i64 (L.getD i default).shard) := by
  induction L generalizing i with
  | nil => simp at h
  | cons a l ih =>
    cases i with
    | zero => exact ⟨rfl, rfl⟩
    | succ i =>
      have := ih i (by simpa using h)
      have e : plc (a :: l) = .int .i64 a.slot :: .int .i64 a.shard :: plc l := by simp [plc]
      rw [e, show (i + 1) * 2 + 0 = (i * 2 + 0) + 2 by omega, show (i + 1) * 2 + 1 = (i * 2 + 1) + 2 by omega]
      simpa using this

theorem plc_put (L : List AskV) (a : AskV) : plc (putL L a) = plc L := by
  induction L with
  | nil => rfl
  | cons r l ih =>
    simp only [plc, putL, List.map_cons, List.flatMap_cons, (put_place a r).1, (put_place a r).2] at *
    rw [ih]

theorem put_len (L : List AskV) (a : AskV) : (putL L a).length = L.length := by simp [putL]

/-- What the queue behind the pointer holds. -/
def QAt (w : World) (p b : Nat) (g : Option Nat) (L : List AskV) : Prop :=
  ∃ v, w.heap[p]? = some (.cells #[v, .map (some b)] 53 (0, 0)) ∧ Seg w 56 2 g v (plc L) L.length ∧ MapQ w b (atF L) L.length ∧ p ≠ b ∧ g ≠ some p ∧ g ≠ some b ∧ QOk L

theorem QAt.chg {w w' : World} {p b : Nat} {g : Option Nat} {L : List AskV} {S : List Nat} (h : QAt w p b g L) (hc : Chg S w w') (hp : p ∉ S) (hb : b ∉ S) (hg : ∀ x, g = some x → x ∉ S) : QAt w' p b g L := by
  obtain ⟨v, h1, h2, h3, r⟩ := h
  exact ⟨v, hc.at h1 hp, h2.chg hc hg, h3.same (hc.block b h3.lt hb), r⟩

theorem newC (w : World) : Calls Try.prog 9 #[] w fun e w' => e = .returned (.pointer (some ⟨w.heap.size + 1, 0, none⟩)) ∧ (QAt w' (w.heap.size + 1) w.heap.size none [] ∧ Below w.heap.size w w') := by
  have hmm := @run_makeMap Try.prog
  go_enter Try.func9, Try.ntmps9
  go_wp2
  go_ret
  refine ⟨rfl, ⟨.slice none 0 0, ?_, Seg.nil _ _ _, ?_, by omega, by simp, by simp, ⟨by simp, List.Pairwise.nil⟩⟩, ((Below.refl _ _).alloc (Nat.le_refl _) _).alloc (by simp) _⟩
  · have := heap_alloc_new (w.alloc (.map #[] 0)) (.cells #[.slice none 0 0, .map (some w.heap.size)] 53)
    simpa using this
  · exact (MapQ.made w).same ((Below.refl (w.alloc (.map #[] 0)).heap.size _).alloc (Nat.le_refl _) _ |>.block _ (by simp))

theorem lenC {w : World} {p b : Nat} {g : Option Nat} {L : List AskV} (h : QAt w p b g L) : Calls Try.prog 20 #[.pointer (some ⟨p, 0, none⟩)] w fun e w' => e = .returned (.int .i64 L.length) ∧ w = w' := by
  obtain ⟨v, h1, h2, _⟩ := h
  obtain ⟨a, cap, rfl, hn, hm⟩ := h2.len
  have c0 : w.cell? ⟨p, 0, none⟩ = some (.slice a L.length cap) := by simp [World.cell?, h1]
  have hp := lt_of_block h1
  unfold maxLen at hm
  clear h1 h2
  go_enter Try.func20, Try.ntmps20
  go_wp2
  go_ret
  exact ⟨rfl, rfl⟩

theorem lenNil (w : World) : Calls Try.prog 20 #[.pointer none] w fun e w' => e = .returned (.int .i64 0) ∧ w = w' := by
  go_enter Try.func20, Try.ntmps20
  go_wp2
  go_ret
  exact ⟨rfl, rfl⟩

set_option maxHeartbeats 2000000 in
theorem pushNil (r : AskV) (w : World) : Calls Try.prog 11 #[.pointer none, r.val] w fun e w' => e = .returned (.bool false) ∧ Below w.heap.size w w' := by
  obtain ⟨a1, a2, a3, a4, a5, a6, a7, a8, a9, a10, a11⟩ := r
  show Calls Try.prog 11 #[.pointer none, .agg #[.int .i64 a1, .int .i64 a2, .int .i64 a3, .int .i64 a4, .int .i64 a5, .string a6, .int .i64 a7, .int .i64 a8, .bool a9, .int .i64 a10, .string a11]] w _
  go_enter Try.func11, Try.ntmps11
  go_wp2
  go_ret
  exact ⟨rfl, (Below.refl _ _).alloc (Nat.le_refl _) _⟩

set_option maxHeartbeats 2000000 in
/-- A place that is none. -/
theorem pushBad (r : AskV) (w : World) (p : Nat) (hv : okV r = false) : Calls Try.prog 11 #[.pointer (some ⟨p, 0, none⟩), r.val] w fun e w' => e = .returned (.bool false) ∧ Below w.heap.size w w' := by
  obtain ⟨a1, a2, a3, a4, a5, a6, a7, a8, a9, a10, a11⟩ := r
  have hv : ¬ (0 ≤ a1 ∧ a1 < 4 ∧ 0 ≤ a3 ∧ a3 < 6) := fun h => by
    rw [(okV_iff _).2 h] at hv
    cases hv
  show Calls Try.prog 11 #[.pointer (some ⟨p, 0, none⟩), .agg #[.int .i64 a1, .int .i64 a2, .int .i64 a3, .int .i64 a4, .int .i64 a5, .string a6, .int .i64 a7, .int .i64 a8, .bool a9, .int .i64 a10, .string a11]] w _
  by_cases h1 : a1 < 0
  · go_enter Try.func11, Try.ntmps11
    go_wp2
    go_ret
    exact ⟨rfl, (Below.refl _ _).alloc (Nat.le_refl _) _⟩
  by_cases h2 : 4 ≤ a1
  · go_enter Try.func11, Try.ntmps11
    go_wp2
    go_ret
    exact ⟨rfl, (Below.refl _ _).alloc (Nat.le_refl _) _⟩
  by_cases h3 : a3 < 0
  · go_enter Try.func11, Try.ntmps11
    go_wp2
    go_ret
    exact ⟨rfl, (Below.refl _ _).alloc (Nat.le_refl _) _⟩
  have h4 : 6 ≤ a3 := by omega
  go_enter Try.func11, Try.ntmps11
  go_wp2
  go_ret
  exact ⟨rfl, (Below.refl _ _).alloc (Nat.le_refl _) _⟩

end Go.Proofs.Ytjamdffaieocmaa
