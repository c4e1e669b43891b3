/-
  The contract of slices.Clone at []byte.
-/
import Derived.Test.YtphoijlpgplnkaaNet
namespace Go.Proofs.Ytphoijlpgplnkaa
open Go.RowKit Go.ChangeMaps

theorem infoByte : (Try.prog.info? 5).map (fun i => (i.zero, i.size, i.bytes)) = some (some (.int .u8 0), 1, 1) := by kernel_rfl

theorem byC_len (bs : List Int) : (byC bs).length = bs.length := by simp [byC]

theorem seg_reads {w : World} {g : Option Nat} {v : Value} {bs : List Int} (h : Seg w 5 1 g v (byC bs) bs.length) : Reads w .u8 v bs := by
  obtain ⟨hl, ⟨rfl, rfl, h0⟩ | ⟨b, off, cap, cur, rfl, rfl, hh, h1, h2, h3, h4⟩⟩ := h
  · have : bs = [] := List.length_eq_zero_iff.1 h0
    subst this
    exact reads_nil _ _
  · refine ⟨_, cap, rfl, by omega, ⟨h1, fun h => by cases h⟩, fun i hi => ⟨b, off, rfl, lt_of_block hh, ?_⟩⟩
    simp only [World.cell?, hh]
    rw [h4 i (by omega)]
    unfold byC
    simp [List.getD_eq_getElem?_getD, hi]

set_option maxRecDepth 100000 in
set_option maxHeartbeats 400000 in
theorem cloneB (v : Value) (bs : List Int) (w : World) (h : Reads w .u8 v bs) (hn : bs.length ≤ 1000000) :
    Calls Try.prog 30 #[v] w fun e w' => ∃ v', e = .returned v' ∧ ∃ g', Seg w' 5 1 g' v' (byC bs) bs.length ∧ (∀ x, g' = some x → w.heap.size ≤ x) ∧ Below w.heap.size w w' := by
  obtain ⟨i0, hi, hz0, hz1, hz2⟩ := info_parts infoByte
  have HI := Lib.hid hi
  have HZ0 := Lib.hid hz0
  have HZ1 := Lib.hid hz1
  have HZ2 := Lib.hid hz2
  clear hi hz0 hz1 hz2
  have H := Lib.hid h
  obtain ⟨a, cap, rfl, hm, hcn, _⟩ := h
  have he := fun W => Lib.run_eql_slice_nil (P := Try.prog) W 29 5 a bs.length cap 0 0 Try.underlying29
  cases a with
  | none =>
    have hc0 := hcn.2 rfl
    have hcap := hcn.1
    subst hc0
    have h0 : bs = [] := List.length_eq_zero_iff.1 (by omega)
    subst h0
    clear H he
    have he := fun W => Lib.run_eql_slice_nil (P := Try.prog) W 29 5 none 0 0 0 0 Try.underlying29
    go_enter Try.func30, Try.ntmps30
    go_wp2
    go_ret
    exact ⟨_, rfl, none, Seg.nil _ _ _, fun x hx => (by cases hx), Below.refl _ _⟩
  | some a =>
    go_enter Try.func30, Try.ntmps30
    have hown0 := World.ownsRow_lit (base := w.heap.size) (size := 1) (e := 5) w #[] 0 (Nat.le_refl _) (by decide) rfl
    have HO := Lib.hid hown0
    clear hown0
    go_wp2_with (at_builtin; refine wpList_append_reads rfl (.tmp 5) (.tmp 6) 29 rfl w.heap.size 5 i0 (.int .u8 0) 1 Try.underlying29 HI.out HZ0.out HZ1.out HZ2.out rfl _ 0 [] rfl HO.out .u8 _ bs rfl (H.out.alloc _) (by unfold maxLen; omega) (by omega) (by simp) ?_; intro v1 w1 hown3 hgrow)
    go_ret
    have hown4 : w1.ownsRow w.heap.size 5 1 v1 bs.length (byC bs) := by simpa [byC] using hown3
    obtain ⟨g', hs, hB⟩ := Seg.of_owns hown4
    exact ⟨v1, rfl, g', hs, hB, ((Below.refl _ _).alloc (Nat.le_refl _) _).grown hgrow (by simp) (fun j hj => by cases hj; exact Nat.le_refl _)⟩

end Go.Proofs.Ytphoijlpgplnkaa
