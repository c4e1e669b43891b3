/-
  Slots: contracts of its functions that write.
-/
import Derived.Test.YtjdhcclhlpeipaaSlots
namespace Go.Proofs.Ytjdhcclhlpeipaa
open Go.RowKit Go.ChangeMaps Utf

theorem newBad (m : Int) (w : World) (hm : m < 1 ∨ 4 < m) :
    Calls Try.prog 10 #[.int .i64 m] w fun e w' => e = .returned (.tuple #[.pointer none, .int .i64 2]) ∧ w = w' := by
  by_cases h1 : m < 1
  · have d1 : decide (m < 1) = true := by simp [h1]
    go_enter Try.func10, Try.ntmps10
    go_wp2
    go_ret2
    exact ⟨rfl, rfl⟩
  · have h2 : 4 < m := by omega
    go_enter Try.func10, Try.ntmps10
    go_wp2
    go_ret2
    exact ⟨rfl, rfl⟩

theorem newC (m : Int) (w : World) (h1 : 1 ≤ m) (h2 : m ≤ 4) :
    Calls Try.prog 10 #[.int .i64 m] w fun e w' => e = .returned (.tuple #[.pointer (some ⟨w.heap.size + 2, 0, none⟩), .int .i64 0]) ∧
      SlotsAt w' (w.heap.size + 2) w.heap.size (w.heap.size + 1) (List.replicate m.toNat 0) 0 ∧ Below w.heap.size w w' := by
  have hmm := @run_makeMap Try.prog
  go_enter Try.func10, Try.ntmps10
  go_wp2
  go_ret2
  refine ⟨rfl, ⟨?_, ?_, ?_, by omega, by omega, by omega, ok_start _, by simp; omega, by decide⟩, (((Below.refl _ _).alloc (Nat.le_refl _) _).alloc (by simp) _).alloc (by simp; omega) _⟩
  · have := heap_alloc_new ((w.alloc (.map #[] 0)).alloc (.map #[] 0)) (.cells #[.int .i64 m, .int .i64 0, .map (some w.heap.size), .map (some (w.heap.size + 1))] 55)
    have e : ((m.toNat : Nat) : Int) = m := by omega
    simpa [e] using this
  · rw [show ofF (List.replicate m.toNat 0) = fun _ => none from funext (ofF_start _), cnt_start]
    exact (MapZ.made w).same (((Below.refl (w.alloc (.map #[] 0)).heap.size _).alloc (Nat.le_refl _) _).alloc (by simp) _ |>.block _ (by simp))
  · rw [show atF (List.replicate m.toNat 0) = fun _ => none from funext (atF_start _), cnt_start]
    have := (MapZ.made (w.alloc (.map #[] 0))).same ((Below.refl ((w.alloc (.map #[] 0)).alloc (.map #[] 0)).heap.size _).alloc (Nat.le_refl _) (.cells #[.int .i64 m, .int .i64 0, .map (some w.heap.size), .map (some (w.heap.size + 1))] 55) |>.block _ (by simp))
    simpa using this

theorem freeC {w : World} {p a b : Nat} {who : List Int} {last : Int} (h : SlotsAt w p a b who last) (id : Int) (hid : wfI id) :
    Calls Try.prog 11 #[.pointer (some ⟨p, 0, none⟩), .int .i64 id] w fun e w' => e = .returned (.bool (ofF who id).isSome) ∧
      SlotsAt w' p a b (freed who id) last ∧ Chg [p, a, b] w w' := by
  obtain ⟨hp, c0, c1, c2, c3, f1⟩ := h.cells
  have hof := ofC h id hid
  unfold freed
  cases ho : ofF who id with
  | none =>
    rw [ho] at hof
    simp only [Option.getD_none, Option.isSome_none] at hof
    clear ho
    go_enter Try.func11, Try.ntmps11
    go_wp2_with (go_at_call 19; refine calls_same hof ?_)
    go_ret
    exact ⟨rfl, h, Chg.refl _ _⟩
  | some i =>
    rw [ho] at hof
    simp only [Option.getD_some, Option.isSome_some] at hof
    have H := h
    obtain ⟨hh, ma, mb, n1, n2, n3, ok, l4, l9⟩ := h
    obtain ⟨i0, i1, id0, _, id9⟩ := of_lt ok ho
    have e1 : ∀ y, ofF (who.set i.toNat 0) y = _ := ofF_free ok ho
    have e2 : ∀ y, atF (who.set i.toNat 0) y = _ := atF_free ok ho
    have e3 := cnt_free ok ho
    have hat := at_of' ok ho
    obtain ⟨w1, r1, m1, t1⟩ := ma.drop hid
    have g1 := t1.grown
    have mb1 := mb.kept g1 (by simp; omega)
    obtain ⟨w2, r2, m2, t2⟩ := mb1.drop (wfI_of (x := i) (by omega) (by omega))
    have g2 := t2.grown
    have hh1 : w1.heap[p]? = _ := (g1.block p hp (by simp; omega)).trans hh
    have hh2 : w2.heap[p]? = _ := (g2.block p (lt_of_block hh1) (by simp; omega)).trans hh1
    have d2 : w1.cell? ⟨p, 2, none⟩ = some (.map (some a)) := by simp [World.cell?, hh1]
    have d3 : w1.cell? ⟨p, 3, none⟩ = some (.map (some b)) := by simp [World.cell?, hh1]
    have hok := ok.free i.toNat i1
    have hend : SlotsAt w2 p a b (who.set i.toNat 0) last := by
      refine ⟨by rw [hh2]; simp, ?_, ?_, n1, n2, n3, hok, by simpa using l4, l9⟩
      · rw [show ofF (who.set i.toNat 0) = _ from funext e1, e3]
        have := m1.kept g2 (by simp; omega)
        simpa [ho] using this
      · rw [show atF (who.set i.toNat 0) = _ from funext e2, e3]
        simpa [hat] using m2
    have hchg : Chg [p, a, b] w w2 := ((Chg.of_grown g1).mono (by simp)).trans ((Chg.of_grown g2).mono (by simp))
    have HE := Lib.hid hend
    have HC := Lib.hid hchg
    clear hend hchg e1 e2 e3 hat m1 m2 mb mb1 ma g1 g2 t1 t2 hh hh1 hh2 ok hok H ho n1 n2 n3
    go_enter Try.func11, Try.ntmps11
    go_wp2_with (go_at_call 19; refine calls_same hof ?_)
    go_ret
    exact ⟨rfl, HE.out, HC.out⟩

end Go.Proofs.Ytjdhcclhlpeipaa
