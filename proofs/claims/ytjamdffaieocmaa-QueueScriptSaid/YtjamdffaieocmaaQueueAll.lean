/-
  The queue: the contract of All.
-/
import Derived.Test.YtjamdffaieocmaaQueuePop
namespace Go.Proofs.Ytjamdffaieocmaa
open Go.RowKit Go.ChangeMaps

def askC (L : List AskV) : List Value := L.flatMap AskV.cells

theorem askC_app (L : List AskV) (a : AskV) : askC (L ++ [a]) = askC L ++ a.cells := by simp [askC]
theorem cells_one (r : AskV) : ∀ u ∈ r.cells, u.oneCell' = true := by
  intro u hu
  simp only [AskV.cells, List.mem_cons, List.not_mem_nil, or_false] at hu
  rcases hu with rfl | rfl | rfl | rfl | rfl | rfl | rfl | rfl | rfl | rfl | rfl <;> rfl

theorem infoAsk : (Try.prog.info? 32).map (fun i => (i.zero, i.size, i.bytes)) = some (some (default : AskV).val, 11, 104) := by kernel_rfl

theorem cell_lit_list (u : World) (l : List Value) (t : TypeId) (j : Nat) (y : Value) (h : l[j]? = some y) : ((u.alloc (.cells l.toArray t)).drew).cell? ((⟨u.heap.size, 0, none⟩ : Addr).add j) = some y := by
  have h0 := heap_alloc_new u (.cells l.toArray t)
  have e : (⟨u.heap.size, 0, none⟩ : Addr).add j = ⟨u.heap.size, j, none⟩ := by cases j <;> simp [Addr.add]
  rw [e]
  show (u.alloc (.cells l.toArray t)).cell? _ = _
  generalize u.alloc (.cells l.toArray t) = x at h0
  simp [World.cell?, h0, h]

theorem allNil (w : World) : Calls Try.prog 14 #[.pointer none] w fun e w' => e = .returned (.slice none 0 0) ∧ w = w' := by
  go_enter Try.func14, Try.ntmps14
  go_wp2
  go_ret
  exact ⟨rfl, rfl⟩

theorem take_snoc (L : List AskV) (k : Nat) (h : k < L.length) : L.take (k + 1) = L.take k ++ [L.getD k default] := by
  rw [List.take_add_one, List.getD_eq_getElem?_getD]
  simp [h]

set_option maxRecDepth 100000 in
set_option maxHeartbeats 4000000 in
theorem allC {w : World} {p b : Nat} {g : Option Nat} {L : List AskV} (h : QAt w p b g L) :
    Calls Try.prog 14 #[.pointer (some ⟨p, 0, none⟩)] w fun e w' => ∃ v, e = .returned v ∧ (∃ g', Seg w' 32 11 g' v (askC L) L.length ∧ ∀ x, g' = some x → w.heap.size ≤ x) ∧ Below w.heap.size w w' := by
  have H := Lib.hid h
  obtain ⟨v, h1, h2, h3, n1, n2, n3, ok⟩ := h
  have hsm := ok.small
  obtain ⟨a, cap, rfl, hn, hm⟩ := h2.len
  have c0 : w.cell? ⟨p, 0, none⟩ = some (.slice a L.length cap) := by simp [World.cell?, h1]
  have hp := lt_of_block h1
  have H2 := Lib.hid h2
  have OK := Lib.hid ok
  unfold maxLen at hm
  clear h1 h2 h3 ok
  go_enter Try.func14, Try.ntmps14
  go_wp2
  go_loopw [3, 13] (fun v3 v13 wr => ∃ (k : Nat) (g' : Option Nat), v13 = .int .i64 k ∧ k ≤ L.length ∧ Seg wr 32 11 g' v3 (askC (L.take k)) k ∧ (∀ x, g' = some x → w.heap.size ≤ x) ∧ Below w.heap.size w wr) (fun _ v13 _ => L.length - (intOf v13).toNat)
  case atStart => exact ⟨0, none, rfl, Nat.zero_le _, Seg.nil _ _ _, fun x hx => (by cases hx), Below.refl _ _⟩
  case round =>
    obtain ⟨k, g', rfl, hk, hseg, hgb, hb⟩ := hrel
    by_cases hlt : k < L.length
    · have hcw : Chg ([] : List Nat) w wr := Chg.of_below hb
      obtain ⟨v0, q1, q2, q3, _⟩ := H.out.chg hcw (by simp) (by simp) (by simp)
      obtain ⟨gb, off, cap', rfl, hae, hgl, hcl⟩ := (H2.out.chg hcw (by simp)).cell (by decide) k hlt
      simp only [Value.slice.injEq, true_and] at hae
      obtain ⟨rfl, rfl⟩ := hae
      have hpg := plc_get L k hlt
      have hc0 := (hcl 0 _ (by decide) hpg.1).1
      have hc1 := (hcl 1 _ (by decide) hpg.2).1
      have hmem : L.getD k default ∈ L := by simp [List.getD_eq_getElem?_getD, hlt]
      have hv := (okV_iff _).1 (OK.out.valid _ hmem)
      have hof := atF_of OK.out hmem
      have hts := take_snoc L k hlt
      generalize hrr : L.getD k default = r at *
      obtain ⟨a1, a2, a3, a4, a5, a6, a7, a8, a9, a10, a11⟩ := r
      simp only [Nat.add_zero] at hc0 hc1 hv hof
      obtain ⟨v1, v2, v3, v4⟩ := hv
      have r1 : (0 : Int) ≤ (k : Int) := by omega
      have r2 : (k : Int) < (L.length : Int) := by omega
      obtain ⟨u, hu⟩ : ∃ u, u = wr.alloc (.cells #[.int .i64 a1, .int .i64 a3] 56) := ⟨_, rfl⟩
      have gu : Chg ([] : List Nat) wr u := hu ▸ (Chg.refl _ _).alloc _
      have hpu : u.heap[wr.heap.size]? = some (.cells #[.int .i64 a1, .int .i64 a3] 56 (0, 0)) := hu ▸ heap_alloc_new _ _
      have hup := gu.at q1 (by simp)
      have h3u := q3.same (gu.block b q3.lt (by simp))
      have hlook : (Instr.lookup 50 (.map (some b)) (.agg #[.int .i64 a1, .int .i64 a3]) false).run Try.prog u.drew = .ok (.agg #[.int .i64 a1, .int .i64 a2, .int .i64 a3, .int .i64 a4, .int .i64 a5, .string a6, .int .i64 a7, .int .i64 a8, .bool a9, .int .i64 a10, .string a11]) u.drew := by
        have := (MapQ.same (w' := u.drew) h3u rfl).look (wfI_of (x := a1) (by omega) (by omega)) (wfI_of (x := a3) (by omega) (by omega))
        rw [hof] at this
        exact this
      have k1 : u.cell? ⟨p, 1, none⟩ = some (.map (some b)) := by simp [World.cell?, hup]
      have k2 : u.cell? ⟨wr.heap.size, 0, none⟩ = some (.int .i64 a1) := by simp [World.cell?, hpu]
      have k3 : u.cell? ⟨wr.heap.size, 1, none⟩ = some (.int .i64 a3) := by simp [World.cell?, hpu]
      have hpl := lt_of_block hup
      obtain ⟨i0, hi, hz0, hz1, hz2⟩ := info_parts infoAsk
      obtain ⟨lit, hlit⟩ : ∃ lit, lit = Obj.cells (⟨a1, a2, a3, a4, a5, a6, a7, a8, a9, a10, a11⟩ : AskV).cells.toArray 32 (0, 0) := ⟨_, rfl⟩
      have gl : Chg ([] : List Nat) u (u.alloc lit).drew := ((Chg.refl _ _).alloc _).drew
      obtain ⟨v', x, g2, hrun, hseg2, hchg, hgg, _⟩ := ((hseg.chg gu (by simp)).chg gl (by simp)).append (P := Try.prog) 40 i0 (default : AskV).val 104 Try.underlying40 hi hz0 hz1 hz2 rfl (by decide)
        ⟨u.heap.size, 0, none⟩ 1 1 (by decide) (⟨a1, a2, a3, a4, a5, a6, a7, a8, a9, a10, a11⟩ : AskV).cells rfl (fun j y hj => by rw [hlit]; exact cell_lit_list u _ _ j y hj) (cells_one _) (by unfold maxLen; omega) (by omega)
      rw [hlit] at hrun
      have hrun' := hrun
      obtain ⟨ad, cp, rfl, _⟩ := hseg2.len
      have hfin : ∃ (k' : Nat) (g'' : Option Nat), Value.int .i64 ((k : Int) + 1) = .int .i64 k' ∧ k' ≤ L.length ∧ Seg x 32 11 g'' (.slice ad (k + 1) cp) (askC (L.take k')) k' ∧ (∀ y, g'' = some y → w.heap.size ≤ y) ∧ Below w.heap.size w x := by
        have hbu : Below w.heap.size w (u.alloc lit).drew := hb.trans (((gu.trans gl).nil_below).mono hb.size)
        refine ⟨k + 1, g2, by simp, by omega, ?_, fun y hy => ?_, hbu.trans (hchg.below (fun y hy => ?_) hbu.size)⟩
        · rw [hts, askC_app]
          exact hseg2
        · rcases hgg with e | ⟨q, e, hq⟩
          · exact hgb y (by rw [← e]; exact hy)
          · rw [hy] at e; injection e with e; subst e
            exact Nat.le_trans hbu.size hq
        · cases hgv : g' with
          | none => rw [hgv] at hy; simp at hy
          | some q => rw [hgv] at hy; simp at hy; subst hy; exact hgb y hgv
      have HFIN := Lib.hid hfin
      have HRUN := Lib.hid hrun'
      have HU := Lib.hid hu
      clear hfin hrun hrun' hu gu hpu hup h3u hi hz0 hz1 hz2 hlit gl hseg2 hchg hgg hseg hgb hb q1 q2 q3 hcl hpg hmem hof hts hcw hrr
      go_upto_region 7 with fail
      rw [← HU.out]
      go_region_law (first
        | (refine step_run (by rfl) (.tmp 17) (.tmp 24) 40 (by rfl) _ _ _ x (by rfl) (by rfl) (HRUN.out _) ?_)
        | fail)
      all_goals
        go_wp2
        exact ⟨HFIN.out, by simp [intOf]; omega⟩
    · obtain rfl : k = L.length := by omega
      rw [List.take_of_length_le (Nat.le_refl _)] at hseg
      have HS := Lib.hid hseg
      have HG := Lib.hid hgb
      have HB := Lib.hid hb
      clear hseg hgb hb
      go_wp2
      go_ret
      exact ⟨_, rfl, ⟨g', HS.out, HG.out⟩, HB.out⟩

end Go.Proofs.Ytjamdffaieocmaa
