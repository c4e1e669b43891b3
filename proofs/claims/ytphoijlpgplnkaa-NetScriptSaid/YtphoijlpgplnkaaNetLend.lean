/-
  The contracts of LendBytes and KeptBytes: what is lent lies in a block of its own, its spare room marked.
-/
import Derived.Test.YtphoijlpgplnkaaNetClone
import Derived.Test.YtphoijlpgplnkaaSameBytes
import Derived.Deep.DeepAppendRoom
import Derived.Laws.AppendOwnNone
namespace Go.Proofs.Ytphoijlpgplnkaa
open Go.RowKit

/-- Lent: a block of its own, the integers and three marks. -/
def Lent (w : World) (B : Nat) (v : Value) (xs : List Int) : Prop :=
  ∃ g, v = .slice (some ⟨g, 0, none⟩) xs.length (xs.length + 3) ∧ xs.length + 3 ≤ maxLen ∧ w.ownsRow B 5 1 (.slice (some ⟨g, 0, none⟩) (xs.length + 3) (xs.length + 3)) (xs.length + 3) ((xs ++ [119, 119, 119]).map (Value.int .u8))

theorem Lent.below {w w' : World} {B : Nat} {v : Value} {xs : List Int} (h : Lent w B v xs) (hb : Below w.heap.size w w') : Lent w' B v xs := by
  obtain ⟨g, h1, h3, h4⟩ := h
  exact ⟨g, h1, h3, ownsRow_below h4 hb⟩

theorem Lent.cell {w : World} {B : Nat} {g : Nat} {xs : List Int} (h : w.ownsRow B 5 1 (.slice (some ⟨g, 0, none⟩) (xs.length + 3) (xs.length + 3)) (xs.length + 3) ((xs ++ [119, 119, 119]).map (Value.int .u8))) (i : Nat) (hi : i < xs.length + 3) :
    w.cell? ⟨g, i, none⟩ = some (.int .u8 ((xs ++ [119, 119, 119]).getD i 0)) := by
  rw [h.cellAt i (by omega), List.getElem?_map, List.getElem?_eq_getElem (by simp; omega), List.getD_eq_getElem?_getD, List.getElem?_eq_getElem (by simp; omega)]
  rfl

theorem Lent.reads {w : World} {B : Nat} {v : Value} {xs : List Int} (h : Lent w B v xs) : Reads w .u8 v xs := by
  obtain ⟨g, h1, h3, h4⟩ := h
  refine ⟨_, _, h1, by omega, ⟨by omega, fun h => by cases h⟩, fun i hi => ⟨g, 0, rfl, (h4.lt g rfl).2, ?_⟩⟩
  rw [Nat.zero_add, Lent.cell h4 i (by omega)]
  simp [List.getD_eq_getElem?_getD, List.getElem?_append_left hi]

/-- One more cell of a row that has room. -/
theorem own_extend {w : World} {B : Nat} {e : TypeId} {g m cap : Nat} {xs : List Value} (h : w.ownsRow B e 1 (.slice (some ⟨g, 0, none⟩) m cap) m xs) (hm : m < cap) (u : Value) :
    (∃ y, w.cell? ⟨g, m, none⟩ = some y) ∧ w.frozen? ⟨g, m, none⟩ = false ∧ (w.setCell ⟨g, m, none⟩ u).ownsRow B e 1 (.slice (some ⟨g, 0, none⟩) (m + 1) cap) (m + 1) (xs ++ [u]) ∧ w.grownBy (w.setCell ⟨g, m, none⟩ u) (some g) := by
  have hf := h.frozenAt m
  obtain ⟨hx, h2⟩ := h
  rcases h2 with ⟨h0, _⟩ | ⟨g', cap', cur, hv, hB, hh, hn, hcap, hsz, ht⟩
  · cases h0
  · simp only [Value.slice.injEq, Option.some.injEq, Addr.mk.injEq, and_true, true_and] at hv
    obtain ⟨rfl, rfl⟩ := hv
    refine ⟨⟨cur[m]'(by omega), by simp [World.cell?, hh, show m < cur.size by omega]⟩, hf, ⟨by simp; omega, .inr ⟨g, cap, cur.setIfInBounds m u, rfl, hB, heap_setCell_same w g m cur e u hh, by omega, hcap, by simpa using hsz, ?_⟩⟩,
      ⟨rfl, rfl, rfl, by simp, fun k _ hk => heap_setCell_other w ⟨g, m, none⟩ k u (fun e => hk (by simp [e]))⟩⟩
    rw [Array.toList_setIfInBounds]
    apply List.ext_getElem?
    intro i
    rw [List.getElem?_take]
    have ht' := congrArg (fun l : List Value => l[i]?) ht
    simp only [List.getElem?_take] at ht'
    by_cases h1 : i < m
    · rw [if_pos (by omega)] at ht' ⊢
      rw [List.getElem?_set_ne (by omega), ht', List.getElem?_append_left (by omega)]
    · by_cases h2 : i = m
      · subst h2
        rw [if_pos (by omega), List.getElem?_set_self (by simp; omega), List.getElem?_append_right (by omega)]
        simp [hx]
      · rw [if_neg (by omega), List.getElem?_append_right (by omega), List.getElem?_eq_none (by simp; omega)]

set_option maxRecDepth 100000 in
set_option maxHeartbeats 1000000 in
theorem lendBytes (v : Value) (xs : List Int) (w : World) (h1 : Reads w .u8 v xs) (hn : xs.length ≤ 1000000) :
    Calls Try.prog 20 #[v] w fun e w' => ∃ v', e = .returned v' ∧ Lent w' w.heap.size v' xs ∧ Below w.heap.size w w' := by
  obtain ⟨a1, c1, rfl, m1, ⟨hcap, hnone⟩, r1⟩ := h1
  unfold maxLen at m1
  obtain ⟨i0, hi, hz0, hz1, hz2⟩ := info_parts infoByte
  have HI := Lib.hid hi
  have HZ0 := Lib.hid hz0
  have HZ1 := Lib.hid hz1
  have HZ2 := Lib.hid hz2
  clear hi hz0 hz1
  have hb2 : i0.bytes * (xs.length + 3) ≤ 281474976710656 := by rw [hz2]; omega
  clear hz2
  cases a1 with
  | none =>
    obtain rfl := hnone rfl
    have hz : xs = [] := List.length_eq_zero_iff.1 (by omega)
    subst hz
    clear r1 hnone hcap
    go_enter Try.func20, Try.ntmps20
    go_wp2_with (at_make; refine wpList_make_own _ rfl _ _ 29 rfl w.heap.size 5 i0 (.int .u8 0) 1 Try.underlying29 HI.out HZ0.out HZ1.out _ _ _ 3 rfl rfl (by omega) hb2 (by decide) (Nat.le_refl _) ?_; intro w1 hown1 hgrow1)
    have hown2 := hown1
    have hb3 : Below w.heap.size w w1 := (Below.refl _ _).grown hgrow1 (Nat.le_refl _) (fun k hk => by cases hk)
    clear hgrow1 hown1
    go_loopw [5] (fun i wr => ∃ k : Nat, k ≤ 3 ∧ i = .int .i64 k ∧ wr.ownsRow w.heap.size 5 1 (.slice (some ⟨w.heap.size, 0, none⟩) k 3) k (List.replicate k (.int .u8 119)) ∧ Below w.heap.size w wr) (fun i _ => 3 - (intOf i).toNat)
    case atStart => exact ⟨0, by omega, rfl, by simpa using hown2, hb3⟩
    case round =>
      obtain ⟨k, hk, rfl, hownr, hbel⟩ := hrel
      by_cases hlt : k < 3
      · obtain ⟨⟨y, hy⟩, hf, s1, s2⟩ := own_extend hownr (by omega) (.int .u8 119)
        have S1 := Lib.hid s1
        have HB := Lib.hid (hbel.grown s2 hbel.size (fun j hj => by cases hj; exact Nat.le_refl _))
        have q1 : (0 : Int) ≤ (k : Int) := by omega
        have q2 : (k : Int) < 3 := by omega
        clear s1 s2 hown2 hb3 hbel hownr
        go_wp2
        go_roundw
        case rel => exact ⟨k + 1, by omega, by go_num, by rw [List.replicate_succ']; exact S1.out, HB.out⟩
        case measure => simp [intOf]; omega
      · obtain rfl : k = 3 := by omega
        go_wp2
        go_ret
        exact ⟨_, rfl, ⟨w.heap.size, rfl, by decide, by simpa using hownr⟩, hbel⟩

  | some A =>
    clear hnone
    have hcell : ∀ w1, Below w.heap.size w w1 → ∀ j u, (xs.map (Value.int .u8))[j]? = some u → w1.cell? (A.add j) = some u := by
      intro w1 hb j u hj
      rw [List.getElem?_map] at hj
      cases hx : xs[j]? with
      | none => rw [hx] at hj; cases hj
      | some x =>
        rw [hx] at hj
        simp only [Option.map_some, Option.some.injEq] at hj
        subst hj
        have hlt : j < xs.length := (List.getElem?_eq_some_iff.1 hx).1
        obtain ⟨b, off, e, hbb, hc⟩ := r1 j hlt
        simp only [Option.some.injEq] at e
        subst e
        rw [show (⟨b, off, none⟩ : Addr).add j = ⟨b, off + j, none⟩ from by cases j <;> simp [Addr.add], hb.cell (p := ⟨b, off + j, none⟩) hbb, hc, List.getD_eq_getElem?_getD, hx]
        rfl
    have HC := Lib.hid hcell
    clear hcell r1
    go_enter Try.func20, Try.ntmps20
    go_wp2_with (first
      | (at_make; refine wpList_make_own _ rfl _ _ 29 rfl w.heap.size 5 i0 (.int .u8 0) 1 Try.underlying29 HI.out HZ0.out HZ1.out _ _ _ (xs.length + 3) rfl rfl (by omega) hb2 (by unfold maxLen; omega) (Nat.le_refl _) ?_; intro w1 hown1 hgrow1)
      | (at_builtin; refine wpList_append_own_spare _ rfl (.tmp 10) (.tmp 11) 29 rfl w.heap.size 5 i0 1 Try.underlying29 HI.out HZ1.out w.heap.size 0 (xs.length + 3) [] rfl hown1 A xs.length c1 (xs.map (Value.int .u8)) rfl (by simp) (HC.out _ ((Below.refl _ _).grown hgrow1 (Nat.le_refl _) (fun k hk => by cases hk))) (by intro u hu; obtain ⟨z, _, rfl⟩ := List.mem_map.1 hu; rfl) (by omega) ?_; intro w2 hown2 hgrow2))
    have hb3 : Below w.heap.size w w2 := ((Below.refl _ _).grown hgrow1 (Nat.le_refl _) (fun k hk => by cases hk)).grown hgrow2 hgrow1.size (fun j hj => by cases hj; exact Nat.le_refl _)
    rw [List.nil_append, Nat.zero_add] at hown2
    clear hgrow1 hgrow2 hown1
    go_wp2
    go_loopw [5] (fun i wr => ∃ k : Nat, k ≤ 3 ∧ i = .int .i64 k ∧ wr.ownsRow w.heap.size 5 1 (.slice (some ⟨w.heap.size, 0, none⟩) (xs.length + k) (xs.length + 3)) (xs.length + k) ((xs.map (Value.int .u8)) ++ List.replicate k (.int .u8 119)) ∧ Below w.heap.size w wr) (fun i _ => 3 - (intOf i).toNat)
    case atStart => exact ⟨0, by omega, rfl, by simpa using hown2, hb3⟩
    case round =>
      obtain ⟨k, hk, rfl, hownr, hbel⟩ := hrel
      by_cases hlt : k < 3
      · obtain ⟨⟨y, hy⟩, hf, s1, s2⟩ := own_extend hownr (by omega) (.int .u8 119)
        have S1 := Lib.hid s1
        have HB := Lib.hid (hbel.grown s2 hbel.size (fun j hj => by cases hj; exact Nat.le_refl _))
        have q1 : (0 : Int) ≤ (k : Int) := by omega
        have q2 : (k : Int) < 3 := by omega
        clear s1 s2 hown2 hb3 hbel hownr
        go_wp2
        go_roundw
        case rel => exact ⟨k + 1, by omega, by go_num, by rw [List.replicate_succ', ← List.append_assoc]; exact S1.out, HB.out⟩
        case measure => simp [intOf]; omega
      · obtain rfl : k = 3 := by omega
        go_wp2
        go_ret
        exact ⟨_, rfl, ⟨w.heap.size, rfl, by unfold maxLen; simp; omega, by simpa using hownr⟩, hbel⟩

set_option maxRecDepth 100000 in
set_option maxHeartbeats 1000000 in
theorem keptBytes (v v2 : Value) (xs : List Int) (B : Nat) (w : World) (h1 : Lent w B v xs) (h2 : Reads w .u8 v2 xs) (hn : xs.length ≤ 1000000) :
    Calls Try.prog 22 #[v, v2] w fun e w' => e = .returned (.bool true) ∧ Below w.heap.size w w' := by
  have hrd := h1.reads
  obtain ⟨g, rfl, hm, hown⟩ := h1
  have hsame := fun W (b : Below w.heap.size w W) => sameBytes _ v2 _ _ W (hrd.below b) (h2.below b)
  simp only [decide_true] at hsame
  have HS := Lib.hid hsame
  have hglt := (hown.lt g rfl).2
  have hcl := fun k (hk : k < 3) => Lent.cell hown (xs.length + k) (by omega)
  have hmark : ∀ k, k < 3 → (xs ++ [119, 119, 119]).getD (xs.length + k) 0 = 119 := by
    intro k hk
    rw [List.getD_eq_getElem?_getD, List.getElem?_append_right (by omega)]
    rcases (by omega : k = 0 ∨ k = 1 ∨ k = 2) with rfl | rfl | rfl <;> simp
  have HC := Lib.hid hcl
  have HM := Lib.hid hmark
  unfold maxLen at hm
  clear hsame hcl hmark hown hrd h2
  go_enter Try.func22, Try.ntmps22
  go_wp2
  go_loopw [6] (fun i wr => ∃ k : Nat, k ≤ 3 ∧ i = .int .i64 k ∧ Below w.heap.size w wr) (fun i _ => 3 - (intOf i).toNat)
  case atStart => exact ⟨0, by omega, rfl, Below.refl _ _⟩
  case round =>
    obtain ⟨k, hk, rfl, hbel⟩ := hrel
    by_cases hlt : k < 3
    · have hc := HC.out k hlt
      rw [HM.out k hlt, ← hbel.cell (p := ⟨g, xs.length + k, none⟩) hglt] at hc
      have q1 : (0 : Int) ≤ (k : Int) := by omega
      have q2 : (k : Int) < 3 := by omega
      go_wp2
      go_roundw
      case rel => exact ⟨k + 1, by omega, by go_num, hbel⟩
      case measure => simp [intOf]; omega
    · obtain rfl : k = 3 := by omega
      go_wp2_with (go_at_call 11; refine calls_ext (HS.out _ hbel) ?_; intro u)
      go_ret
      exact ⟨rfl, below_ext hbel (Nat.le_refl _) _⟩

end Go.Proofs.Ytphoijlpgplnkaa
