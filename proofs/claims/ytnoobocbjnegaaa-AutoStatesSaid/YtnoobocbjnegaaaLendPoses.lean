/-
  The contracts of LendPoses, KeptPoses, OverPoses.
-/
import Derived.Test.YtnoobocbjnegaaaSamePoses
import Derived.Test.YtnoobocbjnegaaaState
import Derived.Deep.DeepAppendRoom
import Derived.Laws.AppendOwnNone
namespace Go.Proofs.Ytnoobocbjnegaaa
open Go.RowKit

/-- What marks the spare room. -/
def marks : List (Int × Int) := [(-7, 0), (-7, 0), (-7, 0)]
/-- Lent: a block of its own, the positions and three marks. -/
def LentP (w : World) (B : Nat) (v : Value) (ps : List (Int × Int)) : Prop :=
  ∃ g, v = .slice (some ⟨g, 0, none⟩) ps.length (ps.length + 3) ∧ ps.length + 3 ≤ maxLen ∧ w.ownsRow B 35 2 (.slice (some ⟨g, 0, none⟩) (ps.length + 3) (ps.length + 3)) (ps.length + 3) (posCells (ps ++ marks))

theorem LentP.below {w w' : World} {B : Nat} {v : Value} {ps : List (Int × Int)} (h : LentP w B v ps) (hb : Below w.heap.size w w') : LentP w' B v ps := by
  obtain ⟨g, h1, h3, h4⟩ := h
  exact ⟨g, h1, h3, ownsRow_below h4 hb⟩

theorem own_prefix {w : World} {B : Nat} {e : TypeId} {size g n m cap : Nat} {xs ys : List Value} (h : w.ownsRow B e size (.slice (some ⟨g, 0, none⟩) n cap) n (xs ++ ys)) (hm : m ≤ n) (hx : xs.length = m * size) : w.ownsRow B e size (.slice (some ⟨g, 0, none⟩) m cap) m xs := by
  obtain ⟨h0, h⟩ := h
  rcases h with ⟨h, _⟩ | ⟨g', cap', cur, hv, hB, hh, hn, hcap, hsz, ht⟩
  · cases h
  · simp only [Value.slice.injEq, Option.some.injEq, Addr.mk.injEq, and_true, true_and] at hv
    obtain ⟨rfl, rfl⟩ := hv
    refine ⟨hx, .inr ⟨g, cap, cur, rfl, hB, hh, by omega, hcap, hsz, ?_⟩⟩
    have h1 := congrArg (List.take (m * size)) ht
    rw [List.take_take, Nat.min_eq_left (Nat.mul_le_mul_right _ hm), List.take_left' hx] at h1
    exact h1

theorem LentP.owns {w : World} {B : Nat} {v : Value} {ps : List (Int × Int)} (h : LentP w B v ps) : w.ownsRow B 35 2 v ps.length (posCells ps) := by
  obtain ⟨g, rfl, h3, h4⟩ := h
  have e : posCells (ps ++ marks) = posCells ps ++ posCells marks := by simp [posCells]
  rw [e] at h4
  exact own_prefix h4 (by omega) (posCells_len ps)

/-- One element of two cells more, of a row that has room. -/
theorem own_extend2 {w : World} {B : Nat} {e : TypeId} {g m cap o : Nat} {xs : List Value} (h : w.ownsRow B e 2 (.slice (some ⟨g, 0, none⟩) m cap) m xs) (hm : m < cap) (ho : o = m * 2) (u v : Value) :
    (∃ y, w.cell? ⟨g, o, none⟩ = some y) ∧ (∃ y, w.cell? ⟨g, o + 1, none⟩ = some y) ∧ w.frozen? ⟨g, o, none⟩ = false ∧ w.frozen? ⟨g, o + 1, none⟩ = false ∧
      ((w.setCell ⟨g, o, none⟩ u).setCell ⟨g, o + 1, none⟩ v).ownsRow B e 2 (.slice (some ⟨g, 0, none⟩) (m + 1) cap) (m + 1) (xs ++ [u, v]) ∧ w.grownBy ((w.setCell ⟨g, o, none⟩ u).setCell ⟨g, o + 1, none⟩ v) (some g) := by
  have hf := h.frozenAt o
  have hf1 := h.frozenAt (o + 1)
  obtain ⟨hx, h2⟩ := h
  rcases h2 with ⟨h0, _⟩ | ⟨g', cap', cur, hv, hB, hh, hn, hcap, hsz, ht⟩
  · cases h0
  · simp only [Value.slice.injEq, Option.some.injEq, Addr.mk.injEq, and_true, true_and] at hv
    obtain ⟨rfl, rfl⟩ := hv
    have hh1 := heap_setCell_same w g o cur e u hh
    have hh2 := heap_setCell_same (w.setCell ⟨g, o, none⟩ u) g (o + 1) _ e v hh1
    refine ⟨⟨cur[o]'(by omega), by simp [World.cell?, hh, show o < cur.size by omega]⟩, ⟨cur[o + 1]'(by omega), by simp [World.cell?, hh, show o + 1 < cur.size by omega]⟩, hf, hf1,
      ⟨by simp; omega, .inr ⟨g, cap, _, rfl, hB, hh2, by omega, hcap, by simpa using hsz, ?_⟩⟩,
      ⟨rfl, rfl, rfl, by simp, fun k _ hk => (heap_setCell_other (w.setCell ⟨g, o, none⟩ u) ⟨g, o + 1, none⟩ k v (fun e => hk (by simp [e]))).trans (heap_setCell_other w ⟨g, o, none⟩ k u (fun e => hk (by simp [e])))⟩⟩
    rw [Array.toList_setIfInBounds, Array.toList_setIfInBounds]
    apply List.ext_getElem?
    intro i
    rw [List.getElem?_take]
    have ht' := congrArg (fun l : List Value => l[i]?) ht
    simp only [List.getElem?_take] at ht'
    by_cases h1 : i < m * 2
    · rw [if_pos h1] at ht'
      rw [if_pos (by omega), List.getElem?_set_ne (by omega), List.getElem?_set_ne (by omega), ht', List.getElem?_append_left (by omega)]
    · by_cases h2 : i = m * 2
      · subst h2
        rw [if_pos (by omega), List.getElem?_set_ne (by omega), ho, List.getElem?_set_self (by simp; omega), List.getElem?_append_right (by omega)]
        simp [hx]
      · by_cases h3 : i = m * 2 + 1
        · subst h3
          rw [if_pos (by omega), ho, List.getElem?_set_self (by simp; omega), List.getElem?_append_right (by omega)]
          simp [hx]
        · rw [if_neg (by omega), List.getElem?_append_right (by omega), List.getElem?_eq_none (by simp; omega)]

theorem readsP_news {w : World} {ad : Addr} {n c : Nat} {ps : List (Int × Int)} (h : ReadsP w (.slice (some ad) n c) ps) : ∀ j u, (posCells ps)[j]? = some u → w.cell? (ad.add j) = some u := by
  intro j u hj
  obtain ⟨a', cap', e3, _, _, r1⟩ := h
  simp only [Value.slice.injEq] at e3
  obtain ⟨rfl, rfl, rfl⟩ := e3
  have hlt : j < ps.length * 2 := by rw [← posCells_len]; exact (List.getElem?_eq_some_iff.1 hj).1
  obtain ⟨b, off, e, hbb, hc, hd⟩ := r1 (j / 2) (by omega)
  simp only [Option.some.injEq] at e
  subst e
  have hp := posCells_at ps (j / 2) (by omega)
  rw [show (⟨b, off, none⟩ : Addr).add j = ⟨b, off + j, none⟩ from by cases j <;> simp [Addr.add]]
  rcases Nat.mod_two_eq_zero_or_one j with hm | hm
  · rw [show j / 2 * 2 = j by omega] at hc hp
    rw [hc, ← hp.1, hj]
  · rw [show j / 2 * 2 + 1 = j by omega] at hp
    rw [show off + j / 2 * 2 + 1 = off + j by omega] at hd
    rw [hd, ← hp.2, hj]

/-- The room is written. -/
def Room (w0 : World) (g n k : Nat) (ps : List (Int × Int)) (wr : World) : Prop :=
  wr.ownsRow w0.heap.size 35 2 (.slice (some ⟨g, 0, none⟩) (n + k) (n + 3)) (n + k) (posCells (ps ++ List.replicate k (-7, 0))) ∧ Below w0.heap.size w0 wr

set_option maxRecDepth 100000 in
set_option maxHeartbeats 1000000 in
theorem lendPoses (v : Value) (ps : List (Int × Int)) (w : World) (h1 : ReadsP w v ps) (hn : ps.length ≤ 100000) :
    Calls Try.prog 14 #[v] w fun e w' => ∃ v', e = .returned v' ∧ LentP w' w.heap.size v' ps ∧ Below w.heap.size w w' := by
  have HR := Lib.hid h1
  obtain ⟨a1, c1, rfl, m1, ⟨hcap, hnone⟩, r1⟩ := h1
  unfold maxLen at m1
  obtain ⟨i0, hi, hz0, hz1, hz2⟩ := info_parts infoPos
  have HI := Lib.hid hi
  have HZ0 := Lib.hid hz0
  have HZ1 := Lib.hid hz1
  have HZ2 := Lib.hid hz2
  have hb2 : i0.bytes * (ps.length + 3) ≤ 281474976710656 := by rw [hz2]; omega
  clear hi hz0 hz1 hz2 r1
  cases a1 with
  | none =>
    obtain rfl := hnone rfl
    have hz : ps = [] := List.length_eq_zero_iff.1 (by omega)
    subst hz
    clear hnone hcap
    go_enter Try.func14, Try.ntmps14
    go_wp2_with (at_make; refine wpList_make_own _ rfl _ _ 25 rfl w.heap.size 35 i0 (.agg #[.int .i64 0, .int .i64 0]) 2 Try.underlying25 HI.out HZ0.out HZ1.out _ _ _ 3 rfl rfl (by omega) hb2 (by decide) (Nat.le_refl _) ?_; intro w1 hown1 hgrow1)
    have hown2 := hown1
    have hb3 : Below w.heap.size w w1 := (Below.refl _ _).grown hgrow1 (Nat.le_refl _) (fun k hk => by cases hk)
    clear hgrow1 hown1
    go_loopw [5] (fun i wr => ∃ k : Nat, k ≤ 3 ∧ i = .int .i64 k ∧ Room w w.heap.size 0 k [] wr) (fun i _ => 3 - (intOf i).toNat)
    case atStart => exact ⟨0, by omega, rfl, by simpa [posCells] using hown2, hb3⟩
    case round =>
      obtain ⟨k, hk, rfl, hownr, hbel⟩ := hrel
      by_cases hlt : k < 3
      · obtain ⟨⟨y, hy⟩, ⟨z, hz⟩, hf, hf1, s1, s2⟩ := own_extend2 (o := k * 2) hownr (by omega) (by omega) (.int .i64 (-7)) (.int .i64 0)
        have S1 := Lib.hid s1
        have HB := Lib.hid (hbel.grown s2 hbel.size (fun j hj => by cases hj; exact Nat.le_refl _))
        have q1 : (0 : Int) ≤ (k : Int) := by omega
        have q2 : (k : Int) < 3 := by omega
        clear s1 s2 hown2 hb3 hbel hownr
        go_wp2
        go_roundw
        case rel =>
          refine ⟨k + 1, by omega, by go_num, ?_, HB.out⟩
          rw [List.replicate_succ', ← List.append_assoc, posCells_snoc]
          exact S1.out
        case measure => simp [intOf]; omega
      · obtain rfl : k = 3 := by omega
        go_wp2
        go_ret
        exact ⟨_, rfl, ⟨w.heap.size, rfl, by decide, by simpa [marks] using hownr⟩, hbel⟩
  | some A =>
    clear hnone
    have HC := Lib.hid (fun (w1 : World) (hb : Below w.heap.size w w1) => readsP_news (HR.out.below hb))
    go_enter Try.func14, Try.ntmps14
    go_wp2_with (first
      | (at_make; refine wpList_make_own _ rfl _ _ 25 rfl w.heap.size 35 i0 (.agg #[.int .i64 0, .int .i64 0]) 2 Try.underlying25 HI.out HZ0.out HZ1.out _ _ _ (ps.length + 3) rfl rfl (by omega) hb2 (by unfold maxLen; omega) (Nat.le_refl _) ?_; intro w1 hown1 hgrow1)
      | (at_builtin; refine wpList_append_own_spare _ rfl (.tmp 10) (.tmp 11) 25 rfl w.heap.size 35 i0 2 Try.underlying25 HI.out HZ1.out w.heap.size 0 (ps.length + 3) [] rfl hown1 A ps.length c1 (posCells ps) rfl (by rw [posCells_len]) (HC.out _ ((Below.refl _ _).grown hgrow1 (Nat.le_refl _) (fun k hk => by cases hk))) (by intro u hu; obtain ⟨q, _, hq⟩ := List.mem_flatMap.1 hu; simp at hq; rcases hq with rfl | rfl <;> rfl) (by omega) ?_; intro w2 hown2 hgrow2))
    have hb3 : Below w.heap.size w w2 := ((Below.refl _ _).grown hgrow1 (Nat.le_refl _) (fun k hk => by cases hk)).grown hgrow2 hgrow1.size (fun j hj => by cases hj; exact Nat.le_refl _)
    rw [List.nil_append, Nat.zero_add] at hown2
    clear hgrow1 hgrow2 hown1
    go_wp2
    go_loopw [5] (fun i wr => ∃ k : Nat, k ≤ 3 ∧ i = .int .i64 k ∧ Room w w.heap.size ps.length k ps wr) (fun i _ => 3 - (intOf i).toNat)
    case atStart => exact ⟨0, by omega, rfl, by simpa using hown2, hb3⟩
    case round =>
      obtain ⟨k, hk, rfl, hownr, hbel⟩ := hrel
      by_cases hlt : k < 3
      · obtain ⟨⟨y, hy⟩, ⟨z, hz⟩, hf, hf1, s1, s2⟩ := own_extend2 (o := ps.length * 2 + k * 2) hownr (by omega) (by omega) (.int .i64 (-7)) (.int .i64 0)
        have S1 := Lib.hid s1
        have HB := Lib.hid (hbel.grown s2 hbel.size (fun j hj => by cases hj; exact Nat.le_refl _))
        have q1 : (0 : Int) ≤ (k : Int) := by omega
        have q2 : (k : Int) < 3 := by omega
        clear s1 s2 hown2 hb3 hbel hownr
        go_wp2
        go_roundw
        case rel =>
          refine ⟨k + 1, by omega, by go_num, ?_, HB.out⟩
          rw [List.replicate_succ', ← List.append_assoc, posCells_snoc]
          exact S1.out
        case measure => simp [intOf]; omega
      · obtain rfl : k = 3 := by omega
        go_wp2
        go_ret
        exact ⟨_, rfl, ⟨w.heap.size, rfl, by unfold maxLen; omega, hownr⟩, hbel⟩
end Go.Proofs.Ytnoobocbjnegaaa
