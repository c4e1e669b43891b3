/-
  Chapter 5: the document's table: a slice of rows, each in a block of its own.
-/
import Derived.Test.YtnoobocbjnegaaaInfo
import Derived.Test.YtnoobocbjnegaaaLev
import Derived.Deep.AppendLies
import Derived.WalkSmall
namespace Go.Proofs.Ytnoobocbjnegaaa
open Go.RowKit

theorem infoRows : (Try.prog.info? 44).map (fun i => (i.zero, i.size, i.bytes)) = some (some (.slice none 0 0), 1, 24) := by kernel_rfl

/-- Two rows of unlike kinds lie in unlike blocks. -/
theorem own_apart {w : World} {B B' : Nat} {e e' : TypeId} {size size' : Nat} {v v' : Value} {n n' : Nat} {xs xs' : List Value} (h : w.ownsRow B e size v n xs) (h' : w.ownsRow B' e' size' v' n' xs') (hne : e ≠ e') : v.ownBlock = none ∨ v.ownBlock ≠ v'.ownBlock := by
  rcases h.2 with ⟨rfl, _⟩ | ⟨g, cap, cur, rfl, _, hg, _⟩
  · exact .inl rfl
  · rcases h'.2 with ⟨rfl, _⟩ | ⟨g', cap', cur', rfl, _, hg', _⟩
    · exact .inr (by simp [Value.ownBlock])
    · refine .inr fun e2 => hne ?_
      simp only [Value.ownBlock, Option.some.injEq] at e2
      subst e2
      rw [hg] at hg'
      simp only [Option.some.injEq, Obj.cells.injEq] at hg'
      exact hg'.2.1

/-- A row of the table. -/
def tRow (a b : List Int) (i : Nat) (n : Nat) : List Value := (List.range n).map (fun k => Value.int .i64 (Lev.D a b i k))

theorem tRow_snoc (a b : List Int) (i k : Nat) : tRow a b i k ++ [Value.int .i64 (Lev.D a b i k)] = tRow a b i (k + 1) := by
  simp [tRow, List.range_succ]

/-- The rows so far. -/
def RowsAre (w : World) (B : Nat) (a b : List Int) (n : Nat) (rvs : List Value) : Prop :=
  rvs.length = n ∧ ∀ j, j < n → w.ownsRow B 3 1 (rvs.getD j undef) (b.length + 1) (tRow a b j (b.length + 1))

theorem RowsAre.below {w w' : World} {B : Nat} {a b : List Int} {n : Nat} {rvs : List Value} (h : RowsAre w B a b n rvs) (hb : Below w.heap.size w w') : RowsAre w' B a b n rvs :=
  ⟨h.1, fun j hj => ownsRow_below (h.2 j hj) hb⟩

theorem RowsAre.base {w : World} {B B' : Nat} {a b : List Int} {n : Nat} {rvs : List Value} (h : RowsAre w B a b n rvs) (hb : B' ≤ B) : RowsAre w B' a b n rvs :=
  ⟨h.1, fun j hj => ownsRow_base (h.2 j hj) hb⟩

theorem RowsAre.kept {w w' : World} {B B' : Nat} {a b : List Int} {n m : Nat} {rvs : List Value} {v : Value} {xs : List Value} (h : RowsAre w B a b n rvs) (ht : w.ownsRow B' 44 1 v m xs) (hg : w.grownBy w' v.ownBlock) : RowsAre w' B a b n rvs :=
  ⟨h.1, fun j hj => (h.2 j hj).kept hg (own_apart (h.2 j hj) ht (by decide))⟩

theorem RowsAre.snoc {w : World} {B : Nat} {a b : List Int} {n : Nat} {rvs : List Value} {v : Value} (h : RowsAre w B a b n rvs) (hv : w.ownsRow B 3 1 v (b.length + 1) (tRow a b n (b.length + 1))) : RowsAre w B a b (n + 1) (rvs ++ [v]) := by
  obtain ⟨hl, h⟩ := h
  refine ⟨by simp [hl], fun j hj => ?_⟩
  rw [List.getD_eq_getElem?_getD]
  by_cases e : j = n
  · subst e
    rw [List.getElem?_append_right (by omega), hl, Nat.sub_self]
    exact hv
  · rw [List.getElem?_append_left (by omega), ← List.getD_eq_getElem?_getD]
    exact h j (by omega)

/-- One row of the table, as the walk reads it. -/
theorem RowsAre.cell {w : World} {B : Nat} {a b : List Int} {n : Nat} {rvs : List Value} (h : RowsAre w B a b n rvs) (j : Nat) (hj : j < n) :
    ∃ g c, rvs[j]? = some (.slice (some ⟨g, 0, none⟩) (b.length + 1) c) ∧ b.length + 1 ≤ c ∧ c ≤ maxLen ∧ g < w.heap.size ∧ ∀ k, k ≤ b.length → w.cell? ⟨g, k, none⟩ = some (.int .i64 (Lev.D a b j k)) := by
  have hr := h.2 j hj
  have hl := h.1
  have he : rvs[j]? = some (rvs.getD j undef) := by
    rw [List.getD_eq_getElem?_getD, List.getElem?_eq_getElem (by omega)]; rfl
  rw [he]
  generalize rvs.getD j undef = v at hr
  rcases hr.2 with ⟨_, h0⟩ | ⟨g, cap, cur, rfl, _, hg, hc, hm, _, _⟩
  · omega
  · refine ⟨g, cap, rfl, hc, hm, (Array.getElem?_eq_some_iff.1 hg).1, fun k hk => ?_⟩
    rw [hr.cellAt k (by omega)]
    simp [tRow, show k < b.length + 1 by omega]

/-- What Table answers. -/
def TableOut (a b : List Int) (w : World) (e : Ending) (w' : World) : Prop :=
  ∃ v rvs, e = .returned v ∧ w'.ownsRow w.heap.size 44 1 v (a.length + 1) rvs ∧ RowsAre w' w.heap.size a b (a.length + 1) rvs ∧ Below w.heap.size w w'

theorem tRow_cell {w : World} {B g n c : Nat} {a b : List Int} {i : Nat} (h : w.ownsRow B 3 1 (.slice (some ⟨g, 0, none⟩) n c) n (tRow a b i n)) (k : Nat) (hk : k < n) : w.cell? ⟨g, k, none⟩ = some (.int .i64 (Lev.D a b i k)) := by
  rw [h.cellAt k (by omega)]
  simp [tRow, hk]

theorem own_val {w : World} {B : Nat} {e : TypeId} {v : Value} {n : Nat} {xs : List Value} {x y : Int} (h : w.ownsRow B e 1 v n (xs ++ [Value.int .i64 x])) (he : x = y) : w.ownsRow B e 1 v n (xs ++ [Value.int .i64 y]) := he ▸ h

set_option maxRecDepth 100000 in
set_option maxHeartbeats 4000000 in
theorem tableP (va vb : Value) (a b : List Int) (w : World) (ha : Reads w .i32 va a) (hb : Reads w .i32 vb b) (la : a.length ≤ 100000) (lb : b.length ≤ 100000) :
    Calls Try.prog 28 #[va, vb] w (TableOut a b w) := by
  obtain ⟨a1, c1, rfl, _, _, r1⟩ := ha
  obtain ⟨a2, c2, rfl, _, _, r2⟩ := hb
  obtain ⟨i0, hi, hz0, hz1, hz2⟩ := info_parts infoInt
  obtain ⟨j0, ji, jz0, jz1, jz2⟩ := info_parts infoRows
  have HI := Lib.hid hi
  have HZ0 := Lib.hid hz0
  have HZ1 := Lib.hid hz1
  have HZ2 := Lib.hid hz2
  have JI := Lib.hid ji
  have JZ0 := Lib.hid jz0
  have JZ1 := Lib.hid jz1
  have JZ2 := Lib.hid jz2
  clear hi hz0 hz1 hz2 ji jz0 jz1 jz2
  go_enter Try.func28, Try.ntmps28
  go_wp2
  go_loopw [5, 6, 7, 8, 9] (fun tv i _ _ _ wr => ∃ (n : Nat) (rvs : List Value), n ≤ a.length + 1 ∧ i = .int .i64 n ∧ wr.ownsRow w.heap.size 44 1 tv n rvs ∧ RowsAre wr w.heap.size a b n rvs ∧ Below w.heap.size w wr) (fun _ i _ _ _ _ => a.length + 1 - (intOf i).toNat)
  case atStart => exact ⟨0, [], Nat.zero_le _, rfl, World.ownsRow_nil _ _ _ _, ⟨rfl, fun j hj => absurd hj (Nat.not_lt_zero j)⟩, Below.refl _ _⟩
  case round =>
    obtain ⟨n, rvs, hn, rfl, hown, hrows, hbel⟩ := hrel
    obtain ⟨w0, rfl⟩ : ∃ w0 : World, w0 = wr := ⟨_, rfl⟩
    by_cases hlt : n < a.length + 1
    · have q1 : (0 : Int) ≤ (n : Int) := by omega
      have q2 : (n : Int) ≤ (a.length : Int) := by omega
      have HR := Lib.hid hrows
      have HO := Lib.hid hown
      clear hrows hown
      go_wp2
      go_loopw [7, 8, 9] (fun rv k _ wr => ∃ m : Nat, m ≤ b.length + 1 ∧ k = .int .i64 m ∧ wr.ownsRow w0.heap.size 3 1 rv m (tRow a b n m) ∧ Below w0.heap.size w0 wr) (fun _ k _ _ => b.length + 1 - (intOf k).toNat)
      case atStart => exact ⟨0, Nat.zero_le _, rfl, World.ownsRow_nil _ _ _ _, Below.refl _ _⟩
      case round =>
        obtain ⟨m, hm, rfl, hrow, hbr⟩ := hrel
        by_cases hlt2 : m < b.length + 1
        · have p1 : (0 : Int) ≤ (m : Int) := by omega
          have p2 : (m : Int) ≤ (b.length : Int) := by omega
          have HS := Lib.hid (tRow_snoc a b n m)
          have HROW := Lib.hid hrow
          clear hrow
          by_cases hn0 : n = 0
          · have HD := Lib.hid (show (m : Int) = Lev.D a b n m by subst hn0; exact (Lev.D_zero a b m (by omega)).symm)
            have hnb : ((n : Int) == 0) = true := by simp [hn0]
            have HN := Lib.hid hn0
            clear hn0
            go_wp2_with (at_builtin; refine wpList_append_own _ rfl (.tmp 69) (.tmp 71) 44 rfl w0.heap.size 3 i0 (.int .i64 0) 1 8 Try.underlying44 HI.out HZ0.out HZ1.out HZ2.out rfl (by decide) _ _ _ rfl (HROW.out.alloc _) ⟨_, 0, none⟩ 1 1 [.int .i64 ↑m] rfl rfl (cell_lit _ _ _) (by intro u hu; simp at hu; subst hu; rfl) (by unfold maxLen; omega) (by omega) (by have := hbr.size; simp; omega) ?_; intro v1 w2 hown3 hgrow _)
            rw [HD.out, HS.out] at hown3
            have hb3 : Below w0.heap.size w0 w2 := (hbr.alloc hbr.size _).grown hgrow (by have := hbr.size; simp; omega) (fun j hj => (HROW.out.lt j hj).1)
            clear hgrow
            go_wp2
            go_roundw
            case rel => exact ⟨m + 1, by omega, by go_num, hown3, hb3⟩
            case measure => simp [intOf]; omega
          · by_cases hm0 : m = 0
            · have HD := Lib.hid (show (n : Int) = Lev.D a b n m by subst hm0; exact (Lev.D_zero' a b n (by omega)).symm)
              have hnb : ((n : Int) == 0) = false := by simp [hn0]
              have hmb : ((m : Int) == 0) = true := by simp [hm0]
              have HN := Lib.hid hn0
              have HM := Lib.hid hm0
              clear hn0 hm0
              go_wp2_with (at_builtin; refine wpList_append_own _ rfl (.tmp 69) (.tmp 71) 44 rfl w0.heap.size 3 i0 (.int .i64 0) 1 8 Try.underlying44 HI.out HZ0.out HZ1.out HZ2.out rfl (by decide) _ _ _ rfl (HROW.out.alloc _) ⟨_, 0, none⟩ 1 1 [.int .i64 ↑n] rfl rfl (cell_lit _ _ _) (by intro u hu; simp at hu; subst hu; rfl) (by unfold maxLen; omega) (by omega) (by have := hbr.size; simp; omega) ?_; intro v1 w2 hown3 hgrow _)
              rw [HD.out, HS.out] at hown3
              have hb3 : Below w0.heap.size w0 w2 := (hbr.alloc hbr.size _).grown hgrow (by have := hbr.size; simp; omega) (fun j hj => (HROW.out.lt j hj).1)
              clear hgrow
              go_wp2
              go_roundw
              case rel => exact ⟨m + 1, by omega, by go_num, hown3, hb3⟩
              case measure => simp [intOf]; omega
            · have hnb : ((n : Int) == 0) = false := by simp [hn0]
              have hmb : ((m : Int) == 0) = false := by simp [hm0]
              have hst := Lev.D_step a b (n - 1) (m - 1) (by omega) (by omega)
              rw [show n - 1 + 1 = n by omega, show m - 1 + 1 = m by omega] at hst
              have bd1 := Lev.D_bd a b (n - 1) (m - 1) (by omega) (by omega)
              have bd2 := Lev.D_bd a b (n - 1) m (by omega) (by omega)
              have bd3 := Lev.D_bd a b n (m - 1) (by omega) (by omega)
              obtain ⟨b1, o1, rfl, hbb1, hca⟩ := r1 (n - 1) (by omega)
              obtain ⟨b2, o2, rfl, hbb2, hcb⟩ := r2 (m - 1) (by omega)
              have hbw := hbel.trans (hbr.mono hbel.size)
              rw [← hbw.cell (p := ⟨b1, o1 + (n - 1), none⟩) hbb1] at hca
              rw [← hbw.cell (p := ⟨b2, o2 + (m - 1), none⟩) hbb2] at hcb
              obtain ⟨gr, cr, hrv, hcr, hcm, hgr, hrc⟩ := HR.out.cell (n - 1) (by omega)
              have d1 := hrc (m - 1) (by omega)
              have d2 := hrc m (by omega)
              rw [← hbr.cell (p := ⟨gr, m - 1, none⟩) hgr] at d1
              rw [← hbr.cell (p := ⟨gr, m, none⟩) hgr] at d2
              obtain ⟨gt, ct, htv, _, hgt⟩ := HO.out.form (by omega)
              subst htv
              have d0 := HO.out.cellAt (n - 1) (by omega)
              rw [hrv, ← hbr.cell (p := ⟨gt, n - 1, none⟩) hgt] at d0
              obtain ⟨gw, cw, hwv, _, hgw⟩ := HROW.out.form (by omega)
              subst hwv
              have d3 := tRow_cell HROW.out (m - 1) (by omega)
              have q3 : (0 : Int) ≤ (n : Int) - 1 := by omega
              have q4 : (n : Int) - 1 < (a.length : Int) := by omega
              have q5 : (n : Int) - 1 < (n : Int) := by omega
              have p3 : (0 : Int) ≤ (m : Int) - 1 := by omega
              have p4 : (m : Int) - 1 < (b.length : Int) := by omega
              have p5 : (m : Int) - 1 < (m : Int) := by omega
              have p6 : (m : Int) - 1 < (b.length : Int) + 1 := by omega
              have p7 : (m : Int) < (b.length : Int) + 1 := by omega
              generalize Lev.D a b (n - 1) (m - 1) = e1 at *
              generalize Lev.D a b (n - 1) m = e2 at *
              generalize Lev.D a b n (m - 1) = e3 at *
              generalize a.getD (n - 1) 0 = x at *
              generalize b.getD (m - 1) 0 = y at *
              have HN := Lib.hid hn0
              have HM := Lib.hid hm0
              clear hn0 hm0 hrc hrv r1 r2 hbw
              have HRN := Lib.hid (show ∀ k, (wr.drewN k).ownsRow w0.heap.size 3 1 (.slice (some ⟨gw, 0, none⟩) m cw) m (tRow a b n m) from fun k => ownsRow_below HROW.out (below_drewN (Below.refl _ _) k))
              have HBN := Lib.hid (show ∀ k, Below w0.heap.size w0 (wr.drewN k) from fun k => below_drewN hbr k)
              by_cases hxy : x = y
              · have hxb : (x != y) = false := by simp [hxy]
                rw [if_pos hxy] at hst
                have HST := Lib.hid hst
                clear hst hxy
                go_wp2
                go_quiet (fail)
                go_wp2
                go_quiet (fail)
                go_wp2_with (at_builtin; refine wpList_append_own _ rfl (.tmp 69) (.tmp 71) 44 rfl w0.heap.size 3 i0 (.int .i64 0) 1 8 Try.underlying44 HI.out HZ0.out HZ1.out HZ2.out rfl (by decide) _ _ _ rfl ((HRN.out _).alloc _) ⟨_, 0, none⟩ 1 1 [.int .i64 _] rfl rfl (cell_lit _ _ _) (by intro u hu; simp at hu; subst hu; rfl) (by unfold maxLen; omega) (by omega) (by have := hbr.size; simp; omega) ?_; intro v1 w2 hown3 hgrow _)
                have hown3 := own_val hown3 (show _ = Lev.D a b n m by rw [HST.out]; omega)
                rw [HS.out] at hown3
                have hb3 : Below w0.heap.size w0 w2 := ((HBN.out _).alloc (HBN.out _).size _).grown hgrow (by have := hbr.size; simp; omega) (fun j hj => (HROW.out.lt j hj).1)
                clear hgrow
                go_wp2
                go_roundw
                case rel => exact ⟨m + 1, by omega, by go_num, hown3, hb3⟩
                case measure => simp [intOf]; omega
              · have hxb : (x != y) = true := by simp [hxy]
                rw [if_neg hxy] at hst
                have HST := Lib.hid hst
                clear hst hxy
                go_wp2
                go_quiet (fail)
                go_wp2
                go_quiet (fail)
                go_wp2_with (at_builtin; refine wpList_append_own _ rfl (.tmp 69) (.tmp 71) 44 rfl w0.heap.size 3 i0 (.int .i64 0) 1 8 Try.underlying44 HI.out HZ0.out HZ1.out HZ2.out rfl (by decide) _ _ _ rfl ((HRN.out _).alloc _) ⟨_, 0, none⟩ 1 1 [.int .i64 _] rfl rfl (cell_lit _ _ _) (by intro u hu; simp at hu; subst hu; rfl) (by unfold maxLen; omega) (by omega) (by have := hbr.size; simp; omega) ?_; intro v1 w2 hown3 hgrow _)
                have hown3 := own_val hown3 (show _ = Lev.D a b n m by rw [HST.out]; omega)
                rw [HS.out] at hown3
                have hb3 : Below w0.heap.size w0 w2 := ((HBN.out _).alloc (HBN.out _).size _).grown hgrow (by have := hbr.size; simp; omega) (fun j hj => (HROW.out.lt j hj).1)
                clear hgrow
                go_wp2
                go_roundw
                case rel => exact ⟨m + 1, by omega, by go_num, hown3, hb3⟩
                case measure => simp [intOf]; omega
        · obtain rfl : m = b.length + 1 := by omega
          obtain ⟨gw, cw, hwv, _, hgw⟩ := hrow.form (by omega)
          subst hwv
          have ho1 := ownsRow_below HO.out hbr
          have hr1 := (HR.out.below hbr).snoc (ownsRow_base hrow hbel.size)
          have HO1 := Lib.hid ho1
          have HR1 := Lib.hid hr1
          have hbw := hbel.trans (hbr.mono hbel.size)
          clear hr1 ho1 hrow hbel hbr
          go_wp2_with (at_builtin; refine wpList_append_own _ rfl (.tmp 73) (.tmp 75) 50 rfl w.heap.size 44 j0 (.slice none 0 0) 1 24 Try.underlying50 JI.out JZ0.out JZ1.out JZ2.out rfl (by decide) _ _ _ rfl (HO1.out.alloc _) ⟨_, 0, none⟩ 1 1 [.slice (some ⟨gw, 0, none⟩) (b.length + 1) cw] rfl rfl (cell_lit _ _ _) (by intro u hu; simp at hu; subst hu; rfl) (by unfold maxLen; omega) (by omega) (by have := hbw.size; simp; omega) ?_; intro v1 w2 hown3 hgrow _)
          have hr3 := (HR1.out.below ((Below.refl _ _).alloc (Nat.le_refl _) _)).kept (HO1.out.alloc _) hgrow
          have hb3 : Below w.heap.size w w2 := (hbw.alloc hbw.size _).grown hgrow (by have := hbw.size; simp; omega) (fun j hj => (HO1.out.lt j hj).1)
          clear hgrow
          go_wp2
          go_roundw
          case rel => exact ⟨n + 1, rvs ++ [.slice (some ⟨gw, 0, none⟩) (b.length + 1) cw], by omega, by go_num, hown3, hr3, hb3⟩
          case measure => simp [intOf]; omega
    · obtain rfl : n = a.length + 1 := by omega
      go_wp2
      go_ret
      exact ⟨_, rvs, rfl, hown, hrows, hbel⟩
end Go.Proofs.Ytnoobocbjnegaaa
