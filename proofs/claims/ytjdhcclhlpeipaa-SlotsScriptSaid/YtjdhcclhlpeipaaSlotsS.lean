/-
  Slots: the contract of Submit.
-/
import Derived.Test.YtjdhcclhlpeipaaSlotsW
import Derived.Outline
import Derived.Deep.QuietTactic
import Derived.Deep.CutBlock
import Derived.Deep.RegionHeld3
namespace Go.Proofs.Ytjdhcclhlpeipaa
open Go.RowKit Go.ChangeMaps Utf

/-- z, but for what two of its blocks hold. -/
def two (z : World) (a b : Nat) (x y : Obj) : World := setBlock (setBlock z a x) b y
theorem two_a {z : World} {a b : Nat} (x y : Obj) (hab : a ≠ b) (ha : a < z.heap.size) : (two z a b x y).drew.heap[a]? = some x := by
  show (two z a b x y).heap[a]? = some x
  rw [two, heap_setB_far _ _ hab, heap_setB_at _ _ ha]
theorem two_b {z : World} {a b : Nat} (x y : Obj) (hb : b < z.heap.size) : (two z a b x y).drew.heap[b]? = some y := by
  show (two z a b x y).heap[b]? = some y
  rw [two, heap_setB_at _ _ (by rw [size_setB]; exact hb)]
theorem two_far {z : World} {a b k : Nat} (x y : Obj) (ha : k ≠ a) (hb : k ≠ b) : (two z a b x y).heap[k]? = z.heap[k]? := by
  rw [two, heap_setB_far _ _ hb, heap_setB_far _ _ ha]
theorem two_set_a {z : World} {a b : Nat} (x y u : Obj) (hab : a ≠ b) : setBlock (two z a b x y).drew a u = (two z a b u y).drew := by
  unfold two setBlock World.drew
  simp only [World.mk.injEq, true_and, and_true]
  apply Array.ext_getElem?
  intro i
  simp only [Array.getElem?_setIfInBounds, Array.size_setIfInBounds]
  by_cases h1 : b = i
  · subst h1; simp [hab]
  · by_cases h2 : a = i <;> simp [h1, h2]
theorem two_set_b {z : World} {a b : Nat} (x y u : Obj) : setBlock (two z a b x y).drew b u = (two z a b x u).drew := by
  unfold two setBlock World.drew
  simp
theorem two_self {z : World} {a b : Nat} {x y : Obj} (hx : z.heap[a]? = some x) (hy : z.heap[b]? = some y) : two z a b x y = z := by
  unfold two setBlock
  have e : ((z.heap.setIfInBounds a x).setIfInBounds b y) = z.heap := by
    apply Array.ext_getElem?
    intro i
    simp only [Array.getElem?_setIfInBounds, Array.size_setIfInBounds]
    by_cases h1 : b = i
    · subst h1
      rw [if_pos rfl, if_pos (lt_of_block hy), hy]
    · by_cases h2 : a = i
      · subst h2
        rw [if_neg h1, if_pos rfl, if_pos (lt_of_block hx), hx]
      · rw [if_neg h1, if_neg h2]
  rw [e]
theorem two_chg (z : World) (a b : Nat) (x y : Obj) : Chg [a, b] z (two z a b x y) := ((Chg.refl _ _).setBlock (by simp) _).setBlock (by simp) _

set_option maxHeartbeats 1000000 in
theorem submitNo {w : World} {p a b : Nat} {who : List Int} {last : Int} (h : SlotsAt w p a b who last) (s : ByteArray) (k n : Int) (hs : s.size ≤ maxLen) (hm : mayV s k n = false) :
    Calls Try.prog 12 #[.pointer (some ⟨p, 0, none⟩), .agg #[.string s, .int .i64 k, .int .i64 n]] w fun e w' => e = .returned (.tuple #[.int .i64 1, .int .i64 0, .int .i64 0]) ∧ Below w.heap.size w w' := by
  have hmay := fun w => mayP s k n w hs
  rw [hm] at hmay
  obtain ⟨hp, c0, c1, c2, c3, f1⟩ := h.cells
  clear hm h
  go_enter Try.func12, Try.ntmps12
  go_wp2_with (go_at_call 13; refine calls_ext (hmay _) ?_; intro u)
  go_ret3
  exact ⟨rfl, below_ext ((Below.refl _ _).alloc (Nat.le_refl _) _) (by simp) _⟩

set_option maxHeartbeats 1000000 in
theorem submitBusy {w : World} {p a b : Nat} {who : List Int} {last : Int} (h : SlotsAt w p a b who last) (s : ByteArray) (k n : Int) (hs : s.size ≤ maxLen) (hm : mayV s k n = true) (hc : cntF who = who.length) :
    Calls Try.prog 12 #[.pointer (some ⟨p, 0, none⟩), .agg #[.string s, .int .i64 k, .int .i64 n]] w fun e w' => e = .returned (.tuple #[.int .i64 2, .int .i64 0, .int .i64 0]) ∧ Below w.heap.size w w' := by
  have hmay := fun w => mayP s k n w hs
  rw [hm] at hmay
  obtain ⟨hp, c0, c1, c2, c3, f1⟩ := h.cells
  have hma := h.2.1
  rw [hc] at hma
  have hlen : ∀ (x : World) m ty, (Builtin.len_ #[53] ty #[.map (some a)]).run Try.prog ((ext (w.alloc (.cells #[.string s, .int .i64 k, .int .i64 n] 32)) x).drewN m) = .ok (.int .i64 who.length) ((ext (w.alloc (.cells #[.string s, .int .i64 k, .int .i64 n] 32)) x).drewN m) :=
    fun x m ty => (hma.same (((below_drewN (below_ext ((Below.refl _ _).alloc (Nat.le_refl _) _) (by simp) x) m)).block a hma.lt)).len ty
  clear hm h hma hc
  have hne : ((who.length : Int) == who.length) = true := by simp
  go_enter Try.func12, Try.ntmps12
  go_wp2_with (go_at_call 13; refine calls_ext (hmay _) ?_; intro u)
  go_quiet (fail)
  go_wp2
  go_ret3
  exact ⟨rfl, below_drewN (below_ext ((Below.refl _ _).alloc (Nat.le_refl _) _) (by simp) _) _⟩

set_option maxHeartbeats 2000000 in
theorem submitYes {w : World} {p a b : Nat} {who : List Int} {last : Int} (h : SlotsAt w p a b who last) (s : ByteArray) (k n : Int) (hs : s.size ≤ maxLen) (hm : mayV s k n = true) (hc : cntF who ≠ who.length) (hlb : last < 999999999) :
    Calls Try.prog 12 #[.pointer (some ⟨p, 0, none⟩), .agg #[.string s, .int .i64 k, .int .i64 n]] w fun e w' => e = .returned (.tuple #[.int .i64 3, .int .i64 (last + 1), .int .i64 (freeS who)]) ∧
      SlotsAt w' p a b (who.set (freeS who) (last + 1)) (last + 1) ∧ Chg [p, a, b] w w' := by
  have hmay := fun w => mayP s k n w hs
  rw [hm] at hmay
  have H := Lib.hid h
  obtain ⟨hp, c0, c1, c2, c3, f1⟩ := h.cells
  obtain ⟨hh, ma, mb, n1, n2, n3, ok, l4, l9⟩ := h
  have hne : ((cntF who : Int) == who.length) = false := by simp; omega
  have hfr : freeS who < who.length := by
    rcases Nat.lt_or_ge (freeS who) who.length with h1 | h1
    · exact h1
    · exact absurd ((cnt_full ok).2 (by have := freeS_le who; omega)) hc
  have hl0 := last_ge ok
  clear hm hc c0 c1 c2 c3 f1 hh
  go_enter Try.func12, Try.ntmps12
  go_wp2_with fail
  refine calls_let (hmay _) ?_
  intro u hu
  have hu' : Below w.heap.size w u := ((Below.refl _ _).alloc (Nat.le_refl _) _).trans (hu.mono (by simp))
  have hsl : SlotsAt u p a b who last := H.out.chg (Chg.of_below (S := []) hu') (by simp) (by simp) (by simp)
  obtain ⟨hup, d0, d1, d2, d3, g1⟩ := hsl.cells
  have hlen : ∀ m ty, (Builtin.len_ #[53] ty #[.map (some a)]).run Try.prog (u.drewN m) = .ok (.int .i64 (cntF who)) (u.drewN m) := fun m ty => (MapZ.same (w' := u.drewN m) hsl.2.1 rfl).len ty
  have hlook : ∀ m (j : Nat), j < 5 → (Instr.lookup 53 (.map (some b)) (.int .i64 j) false).run Try.prog (u.drewN m) = .ok (.int .i64 ((atF who j).getD 0)) (u.drewN m) := fun m j hj => (MapZ.same (w' := u.drewN m) hsl.2.2.1 rfl).look (wfI_of (x := j) (by omega) (by omega))
  have HS := Lib.hid hsl
  have HU := Lib.hid hu'
  have HL := Lib.hid hlook
  have OK := Lib.hid ok
  clear hsl hu hu' hlook ma mb H ok
  go_wp2_with fail
  go_quiet (fail)
  go_wp2
  go_loop [7] (fun v => ∃ j : Nat, j ≤ freeS who ∧ v = .int .i64 j) (fun v => freeS who - (intOf v).toNat)
  case atStart => exact ⟨0, Nat.zero_le _, rfl⟩
  case round =>
    obtain ⟨j, hj, rfl⟩ := hrel
    have hl := HL.out nq j (by omega)
    by_cases hjf : j < freeS who
    · have hb := freeS_before hjf
      have hg := OK.out.ge j
      have hx : ((atF who j).getD 0) = who.getD j 0 := by simp only [atF, Int.toNat_natCast]; rw [if_pos ⟨by omega, by omega⟩]; rfl
      rw [hx] at hl
      have hpos : 0 < who.getD j 0 := by omega
      generalize who.getD j 0 = x at *
      clear hx hb hg
      go_wp2
      go_roundw
      case rel => exact ⟨j + 1, by omega, by simp⟩
      case measure => simp [intOf]; omega
    · obtain rfl : j = freeS who := by omega
      have hx : ((atF who (freeS who)).getD 0) = 0 := by simp only [atF, Int.toNat_natCast]; rw [freeS_lt hfr, if_neg (by omega)]; rfl
      rw [hx] at hl
      clear hx
      go_upto_region 11 with fail
      obtain ⟨z, hz⟩ : ∃ z, z = (u.drewN nq).setCell ⟨p, 1, none⟩ (.int .i64 (last + 1)) := ⟨_, rfl⟩
      have HZ := Lib.hid hz
      rw [← hz]
      have zp : z.heap[p]? = some (.cells #[.int .i64 who.length, .int .i64 (last + 1), .map (some a), .map (some b)] 55 (0, 0)) := by
        rw [hz, heap_setCell_at (by simpa using HS.out.1)]
        rfl
      have zc : Chg [p] u z := by
        rw [hz]
        exact ((Chg.refl _ _ : Chg [p] u u).trans (Chg.of_below (below_drewN (Below.refl _ _) _))).setCell _ (by simp) _
      have za : MapZ z a (ofF who) (cntF who) := HS.out.2.1.same (zc.block a HS.out.2.1.lt (by simp; omega))
      have zb : MapZ z b (atF who) (cntF who) := HS.out.2.2.1.same (zc.block b HS.out.2.2.1.lt (by simp; omega))
      have hcl := cnt_le who
      obtain ⟨oa, va, sa, oa1, ha0, ha1, ha2⟩ := za.entry (by omega) (wfI_of (x := last + 1) (by omega) (by omega))
      obtain ⟨ob, vb, sb, ob1, hb0, hb1, hb2⟩ := zb.entry (by omega) (wfI_of (x := freeS who) (by omega) (by omega))
      obtain ⟨oa2, ha3, ha4⟩ := ha2 (freeS who) (wfI_of (by omega) (by omega))
      obtain ⟨ob2, hb3, hb4⟩ := hb2 (last + 1) (wfI_of (by omega) (by omega))
      have zl : p < z.heap.size ∧ a < z.heap.size ∧ b < z.heap.size := ⟨lt_of_block zp, lt_of_block ha0, lt_of_block hb0⟩
      obtain ⟨zl1, zl2, zl3⟩ := zl
      have n3' : a ≠ b := n3
      have hMa : ∀ y, (Instr.mapEntry 53 (.map (some a)) (.int .i64 (last + 1))).run Try.prog (two z a b oa y).drew = .ok (.tuple #[va, .int .i64 sa]) (two z a b oa1 y).drew := fun y => by
        rw [ha1 _ (two_a _ _ n3 zl2), two_set_a _ _ _ n3]
      have hSa : ∀ y, (Instr.entryStore 53 (.map (some a)) (.int .i64 sa) (.int .i64 (freeS who))).run Try.prog (two z a b oa1 y).drew = .ok () (two z a b oa2 y).drew := fun y => by
        rw [ha3 _ (two_a _ _ n3 zl2), two_set_a _ _ _ n3]
      have hMb : ∀ x, (Instr.mapEntry 53 (.map (some b)) (.int .i64 (freeS who))).run Try.prog (two z a b x ob).drew = .ok (.tuple #[vb, .int .i64 sb]) (two z a b x ob1).drew := fun x => by
        rw [hb1 _ (two_b _ _ zl3), two_set_b]
      have hSb : ∀ x, (Instr.entryStore 53 (.map (some b)) (.int .i64 sb) (.int .i64 (last + 1))).run Try.prog (two z a b x ob1).drew = .ok () (two z a b x ob2).drew := fun x => by
        rw [hb3 _ (two_b _ _ zl3), two_set_b]
      have hend : SlotsAt (two z a b oa2 ob2).drew p a b (who.set (freeS who) (last + 1)) (last + 1) := by
        have hos := ok_none_of OK.out
        refine ⟨by show (two z a b oa2 ob2).heap[p]? = _; rw [two_far _ _ n1 n2, zp]; simp, ?_, ?_, n1, n2, n3, OK.out.sub hfr, by simpa using l4, by omega⟩
        · rw [show ofF (who.set (freeS who) (last + 1)) = _ from funext (ofF_sub OK.out hfr), cnt_sub OK.out hfr]
          have := ha4 (two z a b oa2 ob2).drew (two_a _ _ n3 zl2)
          rw [hos.1] at this
          exact this
        · rw [show atF (who.set (freeS who) (last + 1)) = _ from funext (atF_sub OK.out hfr), cnt_sub OK.out hfr]
          have := hb4 (two z a b oa2 ob2).drew (two_b _ _ zl3)
          rw [hos.2 hfr] at this
          exact this
      have e1 : ∀ x y, (two z a b x y).cell? ⟨p, 1, none⟩ = some (.int .i64 (last + 1)) := fun x y => by simp [World.cell?, two_far _ _ n1 n2, zp]
      have e2 : ∀ x y, (two z a b x y).cell? ⟨p, 2, none⟩ = some (.map (some a)) := fun x y => by simp [World.cell?, two_far _ _ n1 n2, zp]
      have e3 : ∀ x y, (two z a b x y).cell? ⟨p, 3, none⟩ = some (.map (some b)) := fun x y => by simp [World.cell?, two_far _ _ n1 n2, zp]
      have HE := Lib.hid hend
      have hchg : Chg [p, a, b] w (two z a b oa2 ob2).drew := (((Chg.of_below HU.out).mono (S := []) (by simp)).trans (zc.mono (by simp))).trans (((two_chg z a b oa2 ob2).mono (by simp)).drew)
      have HC := Lib.hid hchg
      rw [← two_self ha0 hb0]
      clear hz hl hlen hb2 ha2 za zb ha1 ha3 hb1 hb3 ha4 hb4 zp zc hend ha0 hb0 hchg
      go_region_held3 (fun w' => w'.cell? ⟨p, 1, none⟩ = some (.int .i64 (last + 1)) ∧ w'.cell? ⟨p, 2, none⟩ = some (.map (some a)) ∧ w'.cell? ⟨p, 3, none⟩ = some (.map (some b))) (go_keep) (fail)
      go_wp2_with fail
      go_quiet (fail)
      go_wp2
      go_ret3
      exact ⟨rfl, HE.out.chg (Chg.of_below (S := []) (below_drewN (Below.refl _ _) _)) (by simp) (by simp) (by simp), HC.out.trans (Chg.of_below (below_drewN (Below.refl _ _) _))⟩

def subR (m : Bool) (who : List Int) (last : Int) : Int × Int × Int := if m = false then (1, 0, 0) else if cntF who = who.length then (2, 0, 0) else (3, last + 1, freeS who)
def subW (m : Bool) (who : List Int) (last : Int) : List Int := if m = false then who else if cntF who = who.length then who else who.set (freeS who) (last + 1)
def subL (m : Bool) (who : List Int) (last : Int) : Int := if m = false then last else if cntF who = who.length then last else last + 1

theorem submitC {w : World} {p a b : Nat} {who : List Int} {last : Int} (h : SlotsAt w p a b who last) (s : ByteArray) (k n : Int) (hs : s.size ≤ maxLen) (hlb : last < 999999999) :
    Calls Try.prog 12 #[.pointer (some ⟨p, 0, none⟩), .agg #[.string s, .int .i64 k, .int .i64 n]] w fun e w' =>
      e = .returned (.tuple #[.int .i64 (subR (mayV s k n) who last).1, .int .i64 (subR (mayV s k n) who last).2.1, .int .i64 (subR (mayV s k n) who last).2.2]) ∧
        SlotsAt w' p a b (subW (mayV s k n) who last) (subL (mayV s k n) who last) ∧ Chg [p, a, b] w w' := by
  cases hm : mayV s k n with
  | false =>
    refine (submitNo h s k n hs hm).mono fun e w' ⟨he, hb⟩ => ?_
    have hc : Chg ([] : List Nat) w w' := Chg.of_below hb
    exact ⟨by simpa [subR] using he, by simpa [subW, subL] using h.chg hc (by simp) (by simp) (by simp), hc.mono (by simp)⟩
  | true =>
    by_cases hc : cntF who = who.length
    · refine (submitBusy h s k n hs hm hc).mono fun e w' ⟨he, hb⟩ => ?_
      have hg : Chg ([] : List Nat) w w' := Chg.of_below hb
      exact ⟨by simpa [subR, hc] using he, by simpa [subW, subL, hc] using h.chg hg (by simp) (by simp) (by simp), hg.mono (by simp)⟩
    · refine (submitYes h s k n hs hm hc hlb).mono fun e w' ⟨he, hb, hg⟩ => ?_
      exact ⟨by simpa [subR, hc] using he, by simpa [subW, subL, hc] using hb, hg⟩

end Go.Proofs.Ytjdhcclhlpeipaa
