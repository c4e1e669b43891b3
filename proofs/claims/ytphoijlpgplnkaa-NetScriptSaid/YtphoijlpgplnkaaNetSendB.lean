/-
  The net: the contract of Send.
-/
import Derived.Test.YtphoijlpgplnkaaNetSend
namespace Go.Proofs.Ytphoijlpgplnkaa
open Go.RowKit Go.ChangeMaps

theorem step_run {P : Program} {w : World} {ops : Array Oper} {o : Oper} {a : Act} {K : Act → World → Prop} {Q : Exit → Act → World → Prop} {E : Prop} (hg : o.guard = none) (s x : Operand) (t : TypeId)
    (ho : o.op = .call { callee := .builtin .append, args := #[s, x], argTypes := #[t, t] }) (v vx v' : Value) (w' : World) (hs : a.eval s = v) (hx : a.eval x = vx)
    (hrun : (Builtin.append_ #[t, t] o.type #[v, vx]).run P w = .ok v' w') (hK : K (a.put o.dst v') w') : if Region.wanted o (yielded ops a.tmps) = true then Oper.wp P o a w K Q else E := by
  have hw : Region.wanted o (yielded ops a.tmps) = true := by simp [Region.wanted, hg]
  rw [if_pos hw]
  unfold Oper.wp
  simp [execOp, ho, resolve, invoke, builtin, hs, hx, hrun, Result.andThen]
  exact hK

theorem cell_lit_list (u : World) (l : List Value) (t : TypeId) (j : Nat) (y : Value) (h : l[j]? = some y) : (u.alloc (.cells l.toArray t)).cell? ((⟨u.heap.size, 0, none⟩ : Addr).add j) = some y := by
  have h0 := heap_alloc_new u (.cells l.toArray t)
  have e : (⟨u.heap.size, 0, none⟩ : Addr).add j = ⟨u.heap.size, j, none⟩ := by cases j <;> simp [Addr.add]
  rw [e]
  generalize u.alloc (.cells l.toArray t) = x at h0
  simp [World.cell?, h0, h]

theorem own_kept {w w' : World} {p : Nat} {g : Option Nat} {v : Value} {most next : Int} {Ms : List GM} {S : List Nat} (h : NAt w p g v most next Ms) (hc : Chg S w w') (hs : ∀ x ∈ ownN p g Ms, x ∉ S) : NAt w' p g v most next Ms :=
  h.kept (Kept.of_chg hc h.lt hs)

theorem p_not {w : World} {p : Nat} {g : Option Nat} {v : Value} {most next : Int} {Ms : List GM} (h : NAt w p g v most next Ms) : p ∉ g.toList ∧ p ∉ Ms.filterMap GM.fb := by
  have := h.d
  simp only [ownN, List.nodup_cons, List.mem_append, not_or] at this
  exact this.1

/-- The number of the next datagram. -/
theorem NAt.turn {w : World} {p : Nat} {g : Option Nat} {v : Value} {most next : Int} {Ms : List GM} (h : NAt w p g v most next Ms) (hn : next < 1000) : NAt (w.setCell ⟨p, 1, none⟩ (.int .i64 (next + 1))) p g v most (next + 1) Ms := by
  have hc : Chg [p] w (w.setCell ⟨p, 1, none⟩ (.int .i64 (next + 1))) := (Chg.refl _ _).setCell _ (by simp) _
  obtain ⟨n1, n2⟩ := p_not h
  refine ⟨by simpa using heap_setCell_at (i := 1) h.c (.int .i64 (next + 1)), h.s.chg hc fun x hx => ?_, fun m hm => (h.f m hm).chg hc fun x hx => ?_, h.d, h.m1, h.m2, by have := h.n1; omega, by omega, h.l⟩
  · simp only [List.mem_singleton]
    rintro rfl
    exact n1 (by simp [hx])
  · simp only [List.mem_singleton]
    rintro rfl
    exact n2 (List.mem_filterMap.2 ⟨m, hm, hx⟩)

theorem cells_gm {w : World} {p : Nat} {g : Option Nat} {v : Value} (m : GM) {a : Option Addr} {n c : Nat} (hm : m.fv = .slice a n c) : ∀ u ∈ m.cells, u.oneCell' = true := by
  intro u hu
  simp only [GM.cells, List.mem_cons, List.not_mem_nil, or_false] at hu
  rcases hu with rfl | rfl | rfl | rfl | rfl
  · rfl
  · rfl
  · rfl
  · rw [hm]; rfl
  · rfl

/-- A datagram is appended, and the list set. -/
theorem NAt.grow {z : World} {p : Nat} {g : Option Nat} {v : Value} {most next : Int} {Ms : List GM} (h : NAt z p g v most next Ms) (m : GM) (hs : Seg z 5 1 m.fb m.fv (byC m.g.fr) m.g.fr.length)
    (hf : ∀ x, m.fb = some x → x ∉ ownN p g Ms) (hl : (Ms.length : Int) < most) :
    ∃ v' t g', (∀ ty, (Builtin.append_ #[54, 54] ty #[v, .slice (some ⟨z.heap.size, 0, none⟩) 1 1]).run Try.prog (z.alloc (.cells m.cells.toArray 31 (0, 0))) = .ok v' t) ∧
      NAt (t.setCell ⟨p, 2, none⟩ v') p g' v' most next (Ms ++ [m]) ∧ Chg (p :: g.toList) z (t.setCell ⟨p, 2, none⟩ v') ∧ (∃ y, t.cell? ⟨p, 2, none⟩ = some y) ∧ t.frozen? ⟨p, 2, none⟩ = false ∧ p < t.heap.size ∧ (g' = g ∨ ∃ x, g' = some x ∧ z.heap.size < x) := by
  obtain ⟨i0, hi, hz0, hz1, hz2⟩ := info_parts infoGram
  have gl : Chg ([] : List Nat) z (z.alloc (.cells m.cells.toArray 31 (0, 0))) := (Chg.refl _ _).alloc _
  have hm2 := h.m2
  obtain ⟨ma, mn, mc, hmv⟩ : ∃ a n c, m.fv = .slice a n c := by
    obtain ⟨a, c, e, _⟩ := hs.len
    exact ⟨a, _, c, e⟩
  obtain ⟨v', t, g', hrun, hseg, hchg, hgg, _⟩ := (h.s.chg gl (by simp)).append (P := Try.prog) 54 i0 (.agg #[.int .i64 0, .int .i64 0, .int .i64 0, .slice none 0 0, .bool false]) 56 Try.underlying54 hi hz0 hz1 hz2 rfl (by decide)
    ⟨z.heap.size, 0, none⟩ 1 1 (by decide) m.cells rfl (fun j y hj => by exact cell_lit_list z _ _ j y hj) (cells_gm (w := z) (p := p) (g := g) (v := v) m hmv) (by unfold maxLen; omega) (by omega)
  obtain ⟨n1, n2⟩ := p_not h
  have gt : Chg g.toList z t := (gl.mono (by simp)).trans hchg
  have hp0 := gt.at h.c n1
  have gset : Chg [p] t (t.setCell ⟨p, 2, none⟩ v') := (Chg.refl _ _).setCell _ (by simp) _
  have hzp := lt_of_block h.c
  have hgp : ∀ x, g' = some x → x ≠ p := by
    rintro x hx rfl
    rcases hgg with e | ⟨y, e, hy⟩
    · exact n1 (by rw [← e, hx]; simp)
    · rw [hx] at e; injection e with e; simp at hy; omega
  have hgx : ∀ x, g' = some x → g = some x ∨ z.heap.size < x := by
    intro x hx
    rcases hgg with e | ⟨y, e, hy⟩
    · exact .inl (by rw [← e]; exact hx)
    · rw [hx] at e; injection e with e; simp at hy; exact .inr (by omega)
  have hnd := h.d
  simp only [ownN, List.nodup_cons, List.nodup_append] at hnd
  obtain ⟨hd1, hd2, hd3, hd4⟩ := hnd
  have hlt : ∀ x ∈ Ms.filterMap GM.fb, x < z.heap.size := fun x hx => h.lt x (by simp [ownN] at hx ⊢; exact .inr (.inr hx))
  have hgf : ∀ x, g' = some x → x ∉ (Ms ++ [m]).filterMap GM.fb := by
    intro x hx hx2
    rw [List.filterMap_append, List.mem_append] at hx2
    rcases hgx x hx with e | e
    · rcases hx2 with hx2 | hx2
      · exact hd4 x (by simp [e]) x hx2 rfl
      · simp at hx2
        exact hf x hx2 (by simp [ownN, e])
    · rcases hx2 with hx2 | hx2
      · have := hlt x hx2; omega
      · simp at hx2
        have := hs.lt x hx2; omega
  refine ⟨v', t, g', hrun, ⟨by simpa using heap_setCell_at (i := 2) hp0 v', ?_, fun k hk => ?_, ?_, h.m1, hm2, h.n1, h.n2, by simp; omega⟩, (gt.mono fun x hx => List.mem_cons_of_mem _ hx).trans (gset.mono (by simp)), ⟨v, by simp [World.cell?, hp0]⟩, by simp [World.frozen?, hp0], lt_of_block hp0, ?_⟩
  · rw [gmC_app, List.length_append]
    refine hseg.chg gset fun x hx => ?_
    simp only [List.mem_singleton]
    exact hgp x hx
  · rcases List.mem_append.1 hk with hk | hk
    · refine ((h.f k hk).chg gt fun x hx e => ?_).chg gset fun x hx e => ?_
      · exact hd4 x e x (List.mem_filterMap.2 ⟨k, hk, hx⟩) rfl
      · simp only [List.mem_singleton] at e
        subst e
        exact n2 (List.mem_filterMap.2 ⟨k, hk, hx⟩)
    · simp only [List.mem_singleton] at hk
      subst hk
      refine (hs.chg gt fun x hx e => ?_).chg gset fun x hx e => ?_
      · exact hf x hx (by simp [ownN]; exact .inr (.inl (by simpa using e)))
      · simp only [List.mem_singleton] at e
        subst e
        exact hf _ hx (by simp [ownN])
  · simp only [ownN, List.nodup_cons, List.nodup_append, List.mem_append, not_or]
    refine ⟨⟨fun e => hgp p (by simpa using e) rfl, fun e => ?_⟩, by cases g' <;> simp, ?_, fun x hx y hy e => ?_⟩
    · rw [List.filterMap_append, List.mem_append] at e
      rcases e with e | e
      · exact n2 e
      · simp at e
        exact hf p e (by simp [ownN])
    · rw [List.filterMap_append, List.nodup_append]
      refine ⟨hd3, by cases hmf : m.fb <;> simp [hmf], fun x hx y hy e => ?_⟩
      subst e
      simp at hy
      exact hf x hy (by simp [ownN] at hx ⊢; exact .inr (.inr hx))
    · subst e
      exact hgf x (by simpa using hx) hy
  · rcases hgg with e | ⟨y, e, hy⟩
    · exact .inl e
    · exact .inr ⟨y, e, by simp at hy; omega⟩

end Go.Proofs.Ytphoijlpgplnkaa
