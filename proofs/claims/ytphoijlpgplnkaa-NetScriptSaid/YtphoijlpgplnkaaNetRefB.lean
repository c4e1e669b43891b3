/-
  The document's net: Double.
-/
import Derived.Test.YtphoijlpgplnkaaNetRefD
import Derived.Test.YtphoijlpgplnkaaNetDoubleC
namespace Go.Proofs.Ytphoijlpgplnkaa
open Go.RowKit Go.ChangeMaps

theorem risQ {w : World} {p : Nat} {g : Option Nat} {v : Value} {Ms : List GM} {most next : Int} (h : RAt w p g v Ms most next) (i : Int) : ∀ n, Calls Try.prog 33 #[.pointer (some ⟨p, 0, none⟩), .int .i64 i] (w.drewN n) fun e w' => e = .returned (.bool (isN Ms.length i)) ∧ ∃ m, w' = w.drewN m := fun n =>
  (risC (h.chg (chg_drewN w n)) i).mono fun e w' ⟨he, hm⟩ => ⟨he, n, hm.symm⟩

set_option maxRecDepth 100000 in
set_option maxHeartbeats 1000000 in
theorem rdoubleNo {w : World} {p : Nat} {g : Option Nat} {v : Value} {Ms : List GM} {most next : Int} (h : RAt w p g v Ms most next) (i : Int) (hb : isN Ms.length i = false ∨ (Ms.length : Int) = most) :
    Calls Try.prog 26 #[.pointer (some ⟨p, 0, none⟩), .int .i64 i] w fun e w' => e = .returned (.bool false) ∧ Below w.heap.size w w' := by
  have his := risQ h i
  have hp := lt_of_block h.c
  obtain ⟨a, cap, rfl, hn1, hm⟩ := h.s.len
  have hml := h.l
  have hm2 := h.m2
  have c1 : w.cell? ⟨p, 1, none⟩ = some (.int .i64 most) := by simp [World.cell?, h.c]
  have c0 : w.cell? ⟨p, 0, none⟩ = some (.slice a Ms.length cap) := by simp [World.cell?, h.c]
  unfold maxLen at hm
  clear h
  cases hi : isN Ms.length i
  · rw [hi] at his
    have HIS := Lib.hid his
    clear his hb
    go_enter Try.func26, Try.ntmps26
    go_upto_region 1 with fail
    go_quiet (first | (go_at_call 33; exact HIS.out _))
    all_goals
      have hb2 : Below w.heap.size w (w.drewN nq) := (chg_drewN w nq).nil_below
      generalize w.drewN nq = y at *
      go_wp2
      go_ret
      exact ⟨rfl, hb2⟩
  · have hmo : (Ms.length : Int) = most := by
      rcases hb with h | h
      · rw [hi] at h; cases h
      · exact h
    rw [hi] at his
    have HIS := Lib.hid his
    have hmo2 : most ≤ (Ms.length : Int) := by omega
    clear his hb hi hmo
    go_enter Try.func26, Try.ntmps26
    go_upto_region 1 with fail
    go_quiet (first | (go_at_call 33; exact HIS.out _))
    all_goals
      have hb2 : Below w.heap.size w (w.drewN nq) := (chg_drewN w nq).nil_below
      generalize w.drewN nq = y at *
      go_wp2
      go_ret
      exact ⟨rfl, hb2⟩

/-- A row that was made anew is laid in. -/
theorem RAt.layS {w t : World} {p : Nat} {g : Option Nat} {v : Value} {Ms Ms' : List GM} {most next : Int} (h : RAt w p g v Ms most next) (hc : Chg ([] : List Nat) w t) {a' : Option Addr} {n c' : Nat} {g' : Option Nat} (hs : Seg t 31 5 g' (.slice a' n c') (gmC Ms') n) (hg : ∀ x, g' = some x → w.heap.size ≤ x) (hn : n = Ms'.length) (hl : (Ms'.length : Int) ≤ most)
    (hf : ∀ m ∈ Ms', m ∈ Ms ∨ (Seg t 5 1 m.fb m.fv (byC m.g.fr) m.g.fr.length ∧ ∀ x, m.fb = some x → w.heap.size ≤ x ∨ x ∈ Ms.filterMap GM.fb)) :
    RL w (t.setCell ⟨p, 0, none⟩ (.slice a' n c')) p g Ms most next (Ms'.map GM.g) := by
  subst hn
  have hp := lt_of_block h.c
  have hpt := hc.at h.c (by simp)
  have gt : Chg [p] t (t.setCell ⟨p, 0, none⟩ (.slice a' Ms'.length c')) := (Chg.refl _ _).setCell _ (by simp) _
  have hd := h.d
  have hfb : ∀ m ∈ Ms', ∀ x, m.fb = some x → w.heap.size ≤ x ∨ x ∈ Ms.filterMap GM.fb := fun m hm x hx => by
    rcases hf m hm with h1 | ⟨_, h1⟩
    · exact .inr (List.mem_filterMap.2 ⟨m, h1, hx⟩)
    · exact h1 x hx
  refine ⟨⟨g', _, Ms', ⟨by simpa using heap_setCell_at (i := 0) hpt (.slice a' Ms'.length c'), hs.chg gt fun x hx e => ?_, fun m hm => ?_, fun e => ?_, hl, h.m1, h.m2, h.n1, h.n2⟩, rfl, fun x hx => ?_⟩, (hc.mono (by simp)).trans gt⟩
  · simp only [List.mem_singleton] at e
    have := hg x hx
    omega
  · have hseg : Seg t 5 1 m.fb m.fv (byC m.g.fr) m.g.fr.length := by
      rcases hf m hm with h1 | ⟨h1, _⟩
      · exact (h.f.chg hc) m h1
      · exact h1
    refine hseg.chg gt fun x hx e => ?_
    simp only [List.mem_singleton] at e
    rcases hfb m hm x hx with h1 | h1
    · omega
    · exact hd (List.mem_append_right _ (e ▸ h1))
  · rcases List.mem_append.1 e with e | e
    · have := hg p (by simpa using e)
      omega
    · obtain ⟨m, hm, hx⟩ := List.mem_filterMap.1 e
      rcases hfb m hm p hx with h1 | h1
      · omega
      · exact hd (List.mem_append_right _ h1)
  · simp only [ownN, List.mem_cons, List.mem_append, Option.mem_toList] at hx ⊢
    rcases hx with hx | hx | hx
    · exact .inl (.inl hx)
    · exact .inr (hg x hx)
    · obtain ⟨m, hm, hx⟩ := List.mem_filterMap.1 hx
      rcases hfb m hm x hx with h1 | h1
      · exact .inr h1
      · exact .inl (.inr (.inr h1))

theorem RAt.lay {w t : World} {p : Nat} {g : Option Nat} {v : Value} {Ms Ms' : List GM} {most next : Int} (h : RAt w p g v Ms most next) (hc : Chg ([] : List Nat) w t) {a' : Option Addr} {n c' : Nat} (ho : t.ownsRow w.heap.size 31 5 (.slice a' n c') n (gmC Ms')) (hn : n = Ms'.length) (hl : (Ms'.length : Int) ≤ most)
    (hf : ∀ m ∈ Ms', m ∈ Ms ∨ (Seg t 5 1 m.fb m.fv (byC m.g.fr) m.g.fr.length ∧ ∀ x, m.fb = some x → w.heap.size ≤ x ∨ x ∈ Ms.filterMap GM.fb)) :
    RL w (t.setCell ⟨p, 0, none⟩ (.slice a' n c')) p g Ms most next (Ms'.map GM.g) := by
  obtain ⟨g', hs, hg⟩ := Seg.of_owns ho
  exact h.layS hc hs hg hn hl hf

theorem RL.from {w w1 w' : World} {p : Nat} {g : Option Nat} {Ms : List GM} {most next : Int} {L : List GV} (h : RL w1 w' p g Ms most next L) (hc : Chg ([] : List Nat) w w1) : RL w w' p g Ms most next L := by
  obtain ⟨⟨g', v', Ms', h1, h2, h3⟩, h4⟩ := h
  refine ⟨⟨g', v', Ms', h1, h2, fun x hx => ?_⟩, (hc.mono (by simp)).trans h4⟩
  rcases h3 x hx with h | h
  · exact .inl h
  · exact .inr (Nat.le_trans hc.size h)

/-- The row first, then the literal. -/
theorem dblA {w : World} {p : Nat} {g : Option Nat} {v : Value} {Ms : List GM} {most next : Int} (h : RAt w p g v Ms most next) (m : GM) (hm : m ∈ Ms) (hl : (Ms.length : Int) < most) :
    ∃ v1 t1 a4 c4 t4, (∀ ty, (Builtin.append_ #[54, 54] ty #[.slice none 0 0, v]).run Try.prog w = .ok v1 t1) ∧
      (∀ ty, (Builtin.append_ #[54, 54] ty #[v1, .slice (some ⟨t1.heap.size, 0, none⟩) 1 1]).run Try.prog (t1.alloc (.cells m.cells.toArray 31 (0, 0))) = .ok (.slice a4 (Ms.length + 1) c4) t4) ∧
      Chg ([] : List Nat) w t1 ∧ Chg ([] : List Nat) w t4 ∧ RL w (t4.setCell ⟨p, 0, none⟩ (.slice a4 (Ms.length + 1) c4)) p g Ms most next (Ms.map GM.g ++ [m.g]) := by
  have hm2 := h.m2
  obtain ⟨v1, t1, e1, ow1, g1⟩ := new_gram h.s h.f.one (by omega)
  have gl : Chg ([] : List Nat) t1 (t1.alloc (.cells m.cells.toArray 31 (0, 0))) := (Chg.refl _ _).alloc _
  have sl := seg_lit t1 m.cells.toArray 31 5 1 rfl (by decide)
  obtain ⟨fa, fc, hfv, _⟩ := (h.f m hm).len
  obtain ⟨v4, t4, e4, ow4, gg4⟩ := app_gram (ow1.alloc _) sl (cells_gm (w := w) (p := p) (g := none) (v := .slice none 0 0) m hfv) (by omega) (g1.trans gl).size
  obtain ⟨g4, _⟩ := own_chg (g1.trans gl) (ow1.alloc _) gg4 (Nat.le_refl _)
  obtain ⟨g', hs4, _⟩ := Seg.of_owns ow4
  obtain ⟨a4, c4, rfl, _⟩ := hs4.len
  refine ⟨v1, t1, a4, c4, t4, e1, e4, g1, g4, ?_⟩
  rw [show gmC Ms ++ m.cells.toArray.toList = gmC (Ms ++ [m]) from (gmC_app _ _).symm] at ow4
  have := h.lay (Ms' := Ms ++ [m]) g4 ow4 (by simp) (by simp; omega) fun x hx => by
    rcases List.mem_append.1 hx with hx | hx
    · exact .inl hx
    · rw [List.mem_singleton.1 hx]; exact .inl hm
  simpa using this

/-- The literal first, then the row. -/
theorem dblB {w : World} {p : Nat} {g : Option Nat} {v : Value} {Ms : List GM} {most next : Int} (h : RAt w p g v Ms most next) (m : GM) (hm : m ∈ Ms) (hl : (Ms.length : Int) < most) :
    ∃ v1 t1 a4 c4 t4, (∀ ty, (Builtin.append_ #[54, 54] ty #[.slice none 0 0, v]).run Try.prog (w.alloc (.cells m.cells.toArray 31 (0, 0))) = .ok v1 t1) ∧
      (∀ ty, (Builtin.append_ #[54, 54] ty #[v1, .slice (some ⟨w.heap.size, 0, none⟩) 1 1]).run Try.prog t1 = .ok (.slice a4 (Ms.length + 1) c4) t4) ∧
      Chg ([] : List Nat) w t1 ∧ Chg ([] : List Nat) w t4 ∧ RL w (t4.setCell ⟨p, 0, none⟩ (.slice a4 (Ms.length + 1) c4)) p g Ms most next (Ms.map GM.g ++ [m.g]) := by
  have hm2 := h.m2
  have gl : Chg ([] : List Nat) w (w.alloc (.cells m.cells.toArray 31 (0, 0))) := (Chg.refl _ _).alloc _
  have sl := seg_lit w m.cells.toArray 31 5 1 rfl (by decide)
  have hL := h.chg gl
  obtain ⟨v1, t1, e1, ow1, g1⟩ := new_gram hL.s hL.f.one (by omega)
  obtain ⟨fa, fc, hfv, _⟩ := (h.f m hm).len
  obtain ⟨v4, t4, e4, ow4, gg4⟩ := app_gram ow1 (sl.chg g1 (by simp)) (cells_gm (w := w) (p := p) (g := none) (v := .slice none 0 0) m hfv) (by omega) g1.size
  obtain ⟨g4, _⟩ := own_chg g1 ow1 gg4 (Nat.le_refl _)
  obtain ⟨g', hs4, _⟩ := Seg.of_owns ow4
  obtain ⟨a4, c4, rfl, _⟩ := hs4.len
  refine ⟨v1, t1, a4, c4, t4, e1, e4, gl.trans g1, gl.trans g4, ?_⟩
  rw [show gmC Ms ++ m.cells.toArray.toList = gmC (Ms ++ [m]) from (gmC_app _ _).symm] at ow4
  have := hL.lay (Ms' := Ms ++ [m]) g4 ow4 (by simp) (by simp; omega) fun x hx => by
    rcases List.mem_append.1 hx with hx | hx
    · exact .inl hx
    · rw [List.mem_singleton.1 hx]; exact .inl hm
  have := this.from gl
  simpa using this

set_option maxRecDepth 100000 in
set_option maxHeartbeats 2000000 in
theorem rdoubleYes {w : World} {p : Nat} {g : Option Nat} {v : Value} {most next : Int} {Ms : List GM} {i : Nat} (h : RAt w p g v Ms most next) (hi : i < Ms.length) (hl : (Ms.length : Int) < most) :
    Calls Try.prog 26 #[.pointer (some ⟨p, 0, none⟩), .int .i64 i] w fun e w' => e = .returned (.bool true) ∧ RL w w' p g Ms most next (Ms.map GM.g ++ [(Ms.getD i default).g]) := by
  have his := risQ h i
  rw [show isN Ms.length i = true by unfold isN; simp; omega] at his
  have hp := lt_of_block h.c
  have hm2 := h.m2
  have hml := h.l
  obtain ⟨gb, off, cap, rfl, rfl, hgl, hcl⟩ := h.s.cell (by decide) i hi
  have c1 : w.cell? ⟨p, 1, none⟩ = some (.int .i64 most) := by simp [World.cell?, h.c]
  have c0 : w.cell? ⟨p, 0, none⟩ = some (.slice (some ⟨gb, off, none⟩) Ms.length cap) := by simp [World.cell?, h.c]
  have hne : ¬ most ≤ (Ms.length : Int) := by omega
  have hmem : Ms.getD i default ∈ Ms := by simp [List.getD_eq_getElem?_getD, hi]
  have H := Lib.hid h
  have HIS := Lib.hid his
  obtain ⟨gg, hgg⟩ : ∃ gg, (Ms.getD i default).g = gg := ⟨_, rfl⟩
  rw [hgg]
  have HGG := Lib.hid hgg
  clear his h hcl hgl hgg
  go_enter Try.func26, Try.ntmps26
  go_upto_region 1 with fail
  go_quiet (first | (go_at_call 33; exact HIS.out _))
  all_goals
    have gy : Chg ([] : List Nat) w (w.drewN nq) := chg_drewN _ _
    have hny := H.out.chg gy
    obtain ⟨y, hy⟩ : ∃ y, y = w.drewN nq := ⟨_, rfl⟩
    rw [← hy] at gy hny ⊢
    clear hy c0 c1 HIS
    have c0 : y.cell? ⟨p, 0, none⟩ = some (.slice (some ⟨gb, off, none⟩) Ms.length cap) := by simp [World.cell?, hny.c]
    have hpy := lt_of_block hny.c
    have gyd : Chg ([] : List Nat) y y.drew := (Chg.refl _ _).drew
    have hnd := hny.chg gyd
    obtain ⟨gb', off', cap', hg', he', hgl, hcl⟩ := hny.s.cell (by decide) i hi
    simp only [Option.some.injEq] at hg'
    subst hg'
    simp only [Value.slice.injEq, Option.some.injEq, Addr.mk.injEq, and_true, true_and] at he'
    obtain ⟨rfl, rfl⟩ := he'
    have hff := hny.f _ hmem
    have hk : ∀ j u, (Ms.getD i default).cells[j]? = some u → j < 5 → y.cell? ⟨gb, off + i * 5 + j, none⟩ = some u := fun j u hu hj => (hcl j u hj (by rw [gmC_get Ms i j hi hj, hu])).1
    generalize hmm : Ms.getD i default = m at hff hk hmem
    have HMM := Lib.hid hmm
    clear hmm
    obtain ⟨⟨g1, g2, g3, fr, sp⟩, fv, fb⟩ := m
    obtain ⟨fa, fc, hfv, _⟩ := hff.len
    simp only at hfv hff
    subst hfv
    obtain ⟨vA, tA, aA, cA, uA, eA1, eA2, gA1, gA2, rA⟩ := dblA hnd _ hmem hl
    obtain ⟨vB, tB, aB, cB, uB, eB1, eB2, gB1, gB2, rB⟩ := dblB hnd _ hmem hl
    have eA2' : ∀ ty, (Builtin.append_ #[54, 54] ty #[vA, .slice (some ⟨tA.heap.size, 0, none⟩) 1 1]).run Try.prog (tA.alloc (.cells #[.int .i64 g1, .int .i64 g2, .int .i64 g3, .slice fa fr.length fc, .bool sp] 31 (0, 0))) = .ok (.slice aA (Ms.length + 1) cA) uA := eA2
    have eB1' : ∀ ty, (Builtin.append_ #[54, 54] ty #[.slice none 0 0, .slice (some ⟨gb, off, none⟩) Ms.length cap]).run Try.prog (y.drew.alloc (.cells #[.int .i64 g1, .int .i64 g2, .int .i64 g3, .slice fa fr.length fc, .bool sp] 31 (0, 0))) = .ok vB tB := eB1
    have eB2' : ∀ ty, (Builtin.append_ #[54, 54] ty #[vB, .slice (some ⟨y.heap.size, 0, none⟩) 1 1]).run Try.prog tB = .ok (.slice aB (Ms.length + 1) cB) uB := eB2
    have w0 := hk 0 _ rfl (by decide)
    have w1 := hk 1 _ rfl (by decide)
    have w2 := hk 2 _ rfl (by decide)
    have w3 := hk 3 _ rfl (by decide)
    have w4 := hk 4 _ rfl (by decide)
    simp only [Nat.add_zero] at w0 w1 w2 w3 w4
    have i1 : (0 : Int) ≤ (i : Int) := by omega
    have i2 : (i : Int) < (Ms.length : Int) := by omega
    have pA1 := gA1.at hnd.c (by simp)
    have pA2 := gA2.at hnd.c (by simp)
    have pB1 := gB1.at hnd.c (by simp)
    have pB2 := gB2.at hnd.c (by simp)
    have xA1 : tA.cell? ⟨p, 0, none⟩ = some (.slice (some ⟨gb, off, none⟩) Ms.length cap) := by simp [World.cell?, pA1]
    have xA2 : uA.cell? ⟨p, 0, none⟩ = some (.slice (some ⟨gb, off, none⟩) Ms.length cap) := by simp [World.cell?, pA2]
    have xA3 : uA.frozen? ⟨p, 0, none⟩ = false := by simp [World.frozen?, pA2]
    have xB1 : tB.cell? ⟨p, 0, none⟩ = some (.slice (some ⟨gb, off, none⟩) Ms.length cap) := by simp [World.cell?, pB1]
    have xB2 : uB.cell? ⟨p, 0, none⟩ = some (.slice (some ⟨gb, off, none⟩) Ms.length cap) := by simp [World.cell?, pB2]
    have xB3 : uB.frozen? ⟨p, 0, none⟩ = false := by simp [World.frozen?, pB2]
    have lA1 := lt_of_block pA1
    have lA2 := lt_of_block pA2
    have lB1 := lt_of_block pB1
    have lB2 := lt_of_block pB2
    have hgA : gb < tA.heap.size := Nat.lt_of_lt_of_le hgl gA1.size
    have bA := gA1.nil_below
    have v0 := (bA.cell (p := ⟨gb, off + i * 5, none⟩) hgl).trans w0
    have v1 := (bA.cell (p := ⟨gb, off + i * 5 + 1, none⟩) hgl).trans w1
    have v2 := (bA.cell (p := ⟨gb, off + i * 5 + 2, none⟩) hgl).trans w2
    have v3 := (bA.cell (p := ⟨gb, off + i * 5 + 3, none⟩) hgl).trans w3
    have v4 := (bA.cell (p := ⟨gb, off + i * 5 + 4, none⟩) hgl).trans w4
    have RA := Lib.hid (rA.from (gy.trans gyd))
    have RB := Lib.hid (rB.from (gy.trans gyd))
    have EA1 := Lib.hid eA1
    have EA2 := Lib.hid eA2'
    have EB1 := Lib.hid eB1'
    have EB2 := Lib.hid eB2'
    clear hcl hk hff hny hnd gy gyd eA1 eA2 eA2' gA1 gA2 rA eB1 eB2 eB1' eB2' gB1 gB2 rB pA1 pA2 pB1 pB2 bA hmem
    go_upto_region 3 with fail
    go_region_law (first
      | (refine step_run (by rfl) (.const (.slice none 0 0)) (.tmp 25) 54 (by rfl) _ _ _ tA (by kernel_rfl) (by kernel_rfl) (EA1.out _) ?_)
      | (refine step_run (by rfl) (.const (.slice none 0 0)) (.tmp 25) 54 (by rfl) _ _ _ tB (by kernel_rfl) (by kernel_rfl) (EB1.out _) ?_)
      | (refine step_run (by rfl) (.tmp 26) (.tmp 34) 54 (by rfl) _ _ _ uA (by kernel_rfl) (by kernel_rfl) (EA2.out _) ?_)
      | (refine step_run (by rfl) (.tmp 26) (.tmp 34) 54 (by rfl) _ _ _ uB (by kernel_rfl) (by kernel_rfl) (EB2.out _) ?_)
      | fail)
    all_goals
      go_wp2_with fail
      go_ret
      have hgg := HGG.out
      rw [HMM.out] at hgg
      subst hgg
      first | exact ⟨rfl, RA.out⟩ | exact ⟨rfl, RB.out⟩

theorem rdoubleC {w : World} {p : Nat} {g : Option Nat} {v : Value} {Ms : List GM} {most next : Int} (h : RAt w p g v Ms most next) (i : Int) :
    Calls Try.prog 26 #[.pointer (some ⟨p, 0, none⟩), .int .i64 i] w fun e w' => e = .returned (.bool (doubleB (Ms.map GM.g) most i)) ∧ RL w w' p g Ms most next (doubleL (Ms.map GM.g) most i) := by
  have hml : (Ms.map GM.g).length = Ms.length := List.length_map _
  have hl := h.l
  cases hb : doubleB (Ms.map GM.g) most i
  · have hb' := hb
    unfold doubleB at hb'
    rw [hml] at hb'
    refine (rdoubleNo h i ?_).mono fun e w' ⟨he, hw⟩ => ⟨he, ⟨g, v, Ms, h.chg (Chg.of_below hw), ?_, fun x hx => .inl hx⟩, (Chg.of_below (S := [p]) hw)⟩
    · cases hi : isN Ms.length i
      · exact .inl rfl
      · rw [hi] at hb'
        simp at hb'
        exact .inr (by omega)
    · unfold doubleL
      rw [hb]
      rfl
  · have hb' := hb
    unfold doubleB at hb'
    rw [hml] at hb'
    simp only [Bool.and_eq_true, decide_eq_true_eq] at hb'
    obtain ⟨hi, hlt⟩ := hb'
    obtain ⟨k, rfl, hk⟩ := isN_nat hi
    have hgd : (Ms.map GM.g).getD k default = (Ms.getD k default).g := by simp [List.getD_eq_getElem?_getD, hk]
    unfold doubleL
    rw [hb, if_pos rfl, Int.toNat_natCast, hgd]
    exact rdoubleYes h hk hlt

end Go.Proofs.Ytphoijlpgplnkaa
