/-
  The net: the contract of Drop.
-/
import Derived.Test.YtphoijlpgplnkaaNetDeliverC
namespace Go.Proofs.Ytphoijlpgplnkaa
open Go.RowKit Go.ChangeMaps

theorem isN_nat {n : Nat} {i : Int} (h : isN n i = true) : ∃ k : Nat, i = k ∧ k < n := by
  unfold isN at h
  simp at h
  exact ⟨i.toNat, by omega, by omega⟩

/-- What is left behind a datagram that is taken. -/
def tookL (L : List GV) (i : Int) : List GV := if isN L.length i then L.eraseIdx i.toNat else L
def tookG (L : List GV) (i : Int) : GV := if isN L.length i then L.getD i.toNat default else gram0

theorem deliverC {B : Nat} {F : List Nat} {w : World} {p : Nat} {most next : Int} {L : List GV} (h : NF B F w p most next L) (i : Int) :
    Calls Try.prog 10 #[.pointer (some ⟨p, 0, none⟩), .int .i64 i] w fun e w' => ∃ fv, e = .returned (.tuple #[(tookG L i).val fv, .bool (isN L.length i)]) ∧ ∃ fb, Seg w' 5 1 fb fv (byC (tookG L i).fr) (tookG L i).fr.length ∧
      NF B (fb.toList ++ F) w' p most next (tookL L i) ∧ Below B w w' ∧ Kept F w w' := by
  cases hi : isN L.length i
  · refine (deliverNo h i hi).mono fun e w' ⟨he, hb⟩ => ⟨.slice none 0 0, he.trans ?_, none, ?_, ?_, (h.here hb).2.1, (h.here hb).2.2⟩
    · unfold tookG; rw [hi]; rfl
    · unfold tookG; rw [hi]; exact Seg.nil _ _ _
    · unfold tookL; rw [hi]; exact (h.here hb).1
  · obtain ⟨k, rfl, hk⟩ := isN_nat hi
    have e1 : tookG L k = L.getD k default := by unfold tookG; rw [hi]; simp
    have e2 : tookL L k = L.eraseIdx k := by unfold tookL; rw [hi]; simp
    rw [e1, e2]
    exact deliverYes h k hk

set_option maxRecDepth 100000 in
set_option maxHeartbeats 1000000 in
theorem dropC {B : Nat} {F : List Nat} {w : World} {p : Nat} {most next : Int} {L : List GV} (h : NF B F w p most next L) (i : Int) :
    Calls Try.prog 15 #[.pointer (some ⟨p, 0, none⟩), .int .i64 i] w fun e w' => e = .returned (.tuple #[.int .i64 (tookG L i).id, .bool (isN L.length i)]) ∧ NF B F w' p most next (tookL L i) ∧ Below B w w' ∧ Kept F w w' := by
  have hd := deliverC h i
  have hlt : ∀ x ∈ F, x < w.heap.size := by
    obtain ⟨g, v, Ms, _, _, _, _, h5⟩ := h
    exact fun x hx => (h5 x hx).1
  generalize isN L.length i = bb at *
  generalize tookL L i = L2 at *
  generalize tookG L i = G at *
  obtain ⟨g1, g2, g3, fr, sp⟩ := G
  have hd' : Calls Try.prog 10 #[.pointer (some ⟨p, 0, none⟩), .int .i64 i] w fun e w' => ∃ fv, e = .returned (.tuple #[.agg #[.int .i64 g1, .int .i64 g2, .int .i64 g3, fv, .bool sp], .bool bb]) ∧ ∃ fb, Seg w' 5 1 fb fv (byC fr) fr.length ∧
      NF B (fb.toList ++ F) w' p most next L2 ∧ Below B w w' ∧ Kept F w w' := hd
  have HD := Lib.hid hd'
  clear hd hd' h
  go_enter Try.func15, Try.ntmps15
  go_wp2_with fail
  refine HD.out.mono ?_
  rintro e x ⟨fv, rfl, fb, sf, q1, b1, k1⟩
  obtain ⟨fa, fc, rfl, _⟩ := sf.len
  obtain ⟨y, hy⟩ : ∃ y, y = x.alloc (.cells #[.int .i64 g1, .int .i64 g2, .int .i64 g3, .slice fa fr.length fc, .bool sp] 31 (0, 0)) := ⟨_, rfl⟩
  have gy : Chg ([] : List Nat) x y := hy ▸ (Chg.refl _ _).alloc _
  have hya : y.heap[x.heap.size]? = some (.cells #[.int .i64 g1, .int .i64 g2, .int .i64 g3, .slice fa fr.length fc, .bool sp] 31 (0, 0)) := hy ▸ heap_alloc_new _ _
  have c0 : y.cell? ⟨x.heap.size, 0, none⟩ = some (.int .i64 g1) := by simp [World.cell?, hya]
  have hyl := lt_of_block hya
  have q2 := (q1.mono (F' := F) (fun z hz => List.mem_append_right _ hz)).chg (gy.mono (by simp))
  have b2 := b1.trans (gy.nil_below.mono q1.size)
  have k2 : Kept F w y := k1.trans (Kept.of_chg gy (fun z hz => Nat.lt_of_lt_of_le (hlt z hz) b1.size) (by simp))
  have HX := Lib.hid (And.intro q2 (And.intro b2 k2))
  have HY := Lib.hid hy
  clear sf q1 b1 k1 gy hya q2 b2 k2 hy
  go_upto_region 2 with fail
  rw [← HY.out]
  go_wp2
  go_ret2
  exact ⟨rfl, HX.out⟩

end Go.Proofs.Ytphoijlpgplnkaa
