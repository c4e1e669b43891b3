/-
  The contract of slices.Clone at []int.
-/
import Derived.Test.YtdlihgceokpkkaaInfo
namespace Go.Proofs.Ytdlihgceokpkkaa
open Go.RowKit

set_option maxRecDepth 100000 in
set_option maxHeartbeats 400000 in
theorem cloneC (g n : Nat) (xs : List Int) (w : World) (hl : xs.length = n) (h : Reads w .i64 (.slice (some ⟨g, 0, none⟩) n n) xs) (hn : n ≤ 1000000) :
    Calls Try.prog 25 #[.slice (some ⟨g, 0, none⟩) n n] w fun e w' => ∃ v, e = .returned v ∧ w'.ownsRow w.heap.size 3 1 v xs.length (xs.map (Value.int .i64)) ∧ Below w.heap.size w w' := by
  obtain ⟨i0, hi, hz0, hz1, hz2⟩ := info_parts infoInt
  have HI := Lib.hid hi
  have HZ0 := Lib.hid hz0
  have HZ1 := Lib.hid hz1
  have HZ2 := Lib.hid hz2
  clear hi hz0 hz1 hz2
  have H := Lib.hid h
  have HL := Lib.hid hl
  clear h hl
  have he := fun W => Lib.run_eql_slice_nil (P := Try.prog) W 26 3 (some ⟨g, 0, none⟩) n n 0 0 Try.underlying26
  go_enter Try.func25, Try.ntmps25
  have hown0 := World.ownsRow_lit (base := w.heap.size) (size := 1) (e := 3) w #[] 0 (Nat.le_refl _) (by decide) rfl
  have hcell : ∀ j u, (xs.map (Value.int .i64))[j]? = some u → (w.alloc (.cells #[] 3)).cell? ((⟨g, 0, none⟩ : Addr).add j) = some u := by
    intro j u hj
    obtain ⟨a', cap', e3, _, _, r1⟩ := H.out
    rw [List.getElem?_map] at hj
    cases hx : xs[j]? with
    | none => rw [hx] at hj; cases hj
    | some x =>
      rw [hx] at hj
      simp only [Option.map_some, Option.some.injEq] at hj
      subst hj
      have hlt : j < xs.length := (List.getElem?_eq_some_iff.1 hx).1
      obtain ⟨b, off, e, hbb, hc⟩ := r1 j hlt
      simp only [Value.slice.injEq] at e3
      obtain ⟨rfl, _, _⟩ := e3
      simp only [Option.some.injEq, Addr.mk.injEq, and_true] at e
      obtain ⟨rfl, rfl⟩ := e
      rw [show (⟨g, 0, none⟩ : Addr).add j = ⟨g, 0 + j, none⟩ from by cases j <;> simp [Addr.add], World.cell?_alloc_past _ _ _ hbb, hc, List.getD_eq_getElem?_getD, hx]
      rfl
  have HC := Lib.hid hcell
  have HO := Lib.hid hown0
  clear hcell hown0
  go_wp2_with (at_builtin; refine wpList_append_own _ rfl (.tmp 5) (.tmp 6) 26 rfl w.heap.size 3 i0 (.int .i64 0) 1 8 Try.underlying26 HI.out HZ0.out HZ1.out HZ2.out rfl (by decide) _ 0 [] rfl HO.out ⟨g, 0, none⟩ n n (xs.map (Value.int .i64)) rfl (by simp [HL.out]) HC.out (by intro u hu; obtain ⟨z, _, rfl⟩ := List.mem_map.1 hu; rfl) (by unfold maxLen; omega) (by omega) (by simp) ?_; intro v1 w1 hown3 hgrow _)
  go_ret
  refine ⟨v1, rfl, ?_, ((Below.refl _ _).alloc (Nat.le_refl _) _).grown hgrow (by simp) (fun j hj => by cases hj; exact Nat.le_refl _)⟩
  rw [HL.out]
  simpa using hown3
end Go.Proofs.Ytdlihgceokpkkaa
