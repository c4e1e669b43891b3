/-
  The queue: the contract of Push.
-/
import Derived.Test.YtjamdffaieocmaaQueue
import Derived.Deep.CutBlock
import Derived.Deep.RegionLaw
namespace Go.Proofs.Ytjamdffaieocmaa
open Go.RowKit Go.ChangeMaps

theorem infoPlace : (Try.prog.info? 56).map (fun i => (i.zero, i.size, i.bytes)) = some (some (.agg #[.int .i64 0, .int .i64 0]), 2, 16) := by kernel_rfl

/-- append, its run known, at a step of a region that draws its order. -/
theorem step_run {P : Program} {w : World} {ops : Array Oper} {o : Oper} {a : Act} {K : Act → World → Prop} {Q : Exit → Act → World → Prop} {E : Prop} (hg : o.guard = none) (s x : Operand) (t : TypeId)
    (ho : o.op = .call { callee := .builtin .append, args := #[s, x], argTypes := #[t, t] }) (v vx v' : Value) (w' : World) (hs : a.eval s = v) (hx : a.eval x = vx)
    (hrun : (Builtin.append_ #[t, t] o.type #[v, vx]).run P w = .ok v' w') (hK : K (a.put o.dst v') w') : if Region.wanted o (yielded ops a.tmps) = true then Oper.wp P o a w K Q else E := by
  have hw : Region.wanted o (yielded ops a.tmps) = true := by simp [Region.wanted, hg]
  rw [if_pos hw]
  unfold Oper.wp
  simp [execOp, ho, resolve, invoke, builtin, hs, hx, hrun, Result.andThen]
  exact hK

set_option maxRecDepth 100000 in
set_option maxHeartbeats 4000000 in
theorem pushNew {w : World} {p b : Nat} {g : Option Nat} {L : List AskV} (h : QAt w p b g L) (r : AskV) (hv : okV r = true) (hx : atF L r.slot r.shard = none) :
    Calls Try.prog 11 #[.pointer (some ⟨p, 0, none⟩), r.val] w fun e w' => e = .returned (.bool true) ∧
      ∃ g', QAt w' p b g' (L ++ [r]) ∧ Chg (p :: b :: g.toList) w w' ∧ (g' = g ∨ ∃ x, g' = some x ∧ w.heap.size ≤ x) := by
  have hval := (okV_iff r).1 hv
  have H := Lib.hid h
  have hsm := h.choose_spec.2.2.2.2.2.2.small
  obtain ⟨v, h1, h2, h3, n1, n2, n3, ok⟩ := h
  have hp := lt_of_block h1
  have hb := h3.lt
  have hgl := h2.lt
  obtain ⟨a1, a2, a3, a4, a5, a6, a7, a8, a9, a10, a11⟩ := r
  simp only at hval hx
  obtain ⟨v1, v2, v3, v4⟩ := hval
  have RV := Lib.hid (rfl : (⟨a1, a2, a3, a4, a5, a6, a7, a8, a9, a10, a11⟩ : AskV) = ⟨a1, a2, a3, a4, a5, a6, a7, a8, a9, a10, a11⟩)
  show Calls Try.prog 11 #[.pointer (some ⟨p, 0, none⟩), .agg #[.int .i64 a1, .int .i64 a2, .int .i64 a3, .int .i64 a4, .int .i64 a5, .string a6, .int .i64 a7, .int .i64 a8, .bool a9, .int .i64 a10, .string a11]] w _
  clear h1 h2 h3
  go_enter Try.func11, Try.ntmps11
  go_upto_region 4 with fail
  obtain ⟨rc, hrc⟩ : ∃ rc, rc = Obj.cells #[.int .i64 a1, .int .i64 a2, .int .i64 a3, .int .i64 a4, .int .i64 a5, .string a6, .int .i64 a7, .int .i64 a8, .bool a9, .int .i64 a10, .string a11] 32 (0, 0) := ⟨_, rfl⟩
  obtain ⟨z, hz⟩ : ∃ z, z = (w.alloc rc).alloc (.cells #[.int .i64 a1, .int .i64 a3] 56) := ⟨_, rfl⟩
  rw [← hrc, ← hz]
  have gz : Chg ([] : List Nat) w z := hz ▸ ((Chg.refl _ _).alloc _).alloc _
  have hrz : z.heap[w.heap.size]? = some rc := by
    have := heap_alloc_new w rc
    rw [hz]
    exact (Below.heap_alloc _ _ _ (by simp)).trans this
  have hpz : z.heap[w.heap.size + 1]? = some (.cells #[.int .i64 a1, .int .i64 a3] 56 (0, 0)) := by
    rw [hz]
    have := heap_alloc_new (w.alloc rc) (.cells #[.int .i64 a1, .int .i64 a3] 56)
    simpa using this
  have hsz : z.heap.size = w.heap.size + 2 := by rw [hz]; simp
  have hq := H.out.chg gz (by simp) (by simp) (by simp)
  obtain ⟨v, h1, h2, h3, _⟩ := id hq
  have hx' : atF L a1 a3 = none := hx
  have hlook : ∀ W : World, W.heap[b]? = z.heap[b]? → (Instr.lookup 50 (.map (some b)) (.agg #[.int .i64 a1, .int .i64 a3]) true).run Try.prog W = .ok (.tuple #[.agg #[.int .i64 0, .int .i64 0, .int .i64 0, .int .i64 0, .int .i64 0, .string ByteArray.empty, .int .i64 0, .int .i64 0, .bool false, .int .i64 0, .string ByteArray.empty], .bool false]) W := fun W hW => by
    have := (h3.same hW).look_ok (wfI_of (x := a1) (by omega) (by omega)) (wfI_of (x := a3) (by omega) (by omega))
    rw [hx'] at this
    exact this
  have hl0 := hlook z.drew rfl
  have hl1 : ∀ o, _ := fun o => hlook (z.alloc o).drew (Below.heap_alloc _ _ _ h3.lt)
  have c1 : z.cell? ⟨p, 1, none⟩ = some (.map (some b)) := by simp [World.cell?, h1]
  have d0 : z.cell? ⟨w.heap.size + 1, 0, none⟩ = some (.int .i64 a1) := by simp [World.cell?, hpz]
  have d1 : z.cell? ⟨w.heap.size + 1, 1, none⟩ = some (.int .i64 a3) := by simp [World.cell?, hpz]
  have hpl := lt_of_block h1
  have HRC := Lib.hid hrc
  have HRZ := Lib.hid hrz
  have HPZ := Lib.hid hpz
  have HQ := Lib.hid hq
  have GZ := Lib.hid gz
  have HX := Lib.hid hx'
  have HV := Lib.hid hv
  clear hlook hz hrc hrz hpz hq gz h1 h2 h3 hx hx' hv
  go_region_held3 (fun w' => w'.cell? ⟨p, 1, none⟩ = some (.map (some b)) ∧ w'.cell? ⟨w.heap.size + 1, 0, none⟩ = some (.int .i64 a1) ∧ w'.cell? ⟨w.heap.size + 1, 1, none⟩ = some (.int .i64 a3)) (go_keep) (fail)
  all_goals
    go_upto_region 8 with fail
    generalize hU : World.drew _ = u
    have gu : Chg ([] : List Nat) z u := by rw [← hU]; exact ((Chg.refl _ _).alloc _).drew
    have qu := HQ.out.chg gu (by simp) (by simp) (by simp)
    have hpu := gu.at HPZ.out (by simp)
    have hru := gu.at HRZ.out (by simp)
    obtain ⟨v, h1, h2, h3, _⟩ := id qu
    obtain ⟨i0, hi, hz0, hz1, hz2⟩ := info_parts infoPlace
    have gl : Chg ([] : List Nat) u (u.alloc (.cells #[.int .i64 a1, .int .i64 a3] 56)).drew := ((Chg.refl _ _).alloc _).drew
    obtain ⟨v', x, g', hrun, hseg, hchg, hgg, hgs⟩ := (h2.chg gl (by simp)).append (P := Try.prog) 51 i0 (.agg #[.int .i64 0, .int .i64 0]) 16 Try.underlying51 hi hz0 hz1 hz2 rfl (by decide)
      ⟨u.heap.size, 0, none⟩ 1 1 (by decide) [.int .i64 a1, .int .i64 a3] rfl (fun j y hj => by
        have := heap_alloc_new u (.cells #[.int .i64 a1, .int .i64 a3] 56)
        match j, hj with
        | 0, hj => simp at hj; subst hj; simp [Addr.add]
        | 1, hj => simp at hj; subst hj; simp [Addr.add]
        | j + 2, hj => simp at hj) (fun y hy => by simp at hy; rcases hy with rfl | rfl <;> rfl) (by unfold maxLen; omega) (by omega)
    obtain ⟨ad, cp, rfl, _⟩ := hseg.len
    have hxp := hchg.at (gl.at h1 (by simp)) (fun e => by
      cases hgv : g with
      | none => rw [hgv] at e; simp at e
      | some y => rw [hgv] at e; simp at e; exact n2 (by rw [hgv, e]))
    have e0 : u.cell? ⟨p, 0, none⟩ = some v := by simp [World.cell?, h1]
    have e1 : x.cell? ⟨p, 0, none⟩ = some v := by simp [World.cell?, hxp]
    have e2 : x.frozen? ⟨p, 0, none⟩ = false := by simp [World.frozen?, hxp]
    have d0 : u.cell? ⟨w.heap.size + 1, 0, none⟩ = some (.int .i64 a1) := by simp [World.cell?, hpu]
    have d1 : u.cell? ⟨w.heap.size + 1, 1, none⟩ = some (.int .i64 a3) := by simp [World.cell?, hpu]
    have hpl2 := lt_of_block h1
    have hpl3 := lt_of_block hpu
    have hpl4 := lt_of_block hxp
    have HRUN := Lib.hid hrun
    have hgn : ∀ k, (∀ y, g = some y → y ≠ k) → k ∉ g.toList := fun k hk e => by
      cases hgv : g with
      | none => rw [hgv] at e; simp at e
      | some y => rw [hgv] at e; simp at e; exact hk y hgv e.symm
    have hgx : ∀ k, w.heap.size ≤ k → k ∉ g.toList := fun k hk => hgn k (fun y hy e => by have := hgl y hy; omega)
    have hrx := hchg.at (gl.at hru (by simp)) (hgx _ (Nat.le_refl _))
    have hpx := hchg.at (gl.at hpu (by simp)) (hgx _ (by omega))
    have h3x := (h3.same (gl.block b h3.lt (by simp))).same (hchg.block b (by have := gl.size; have := h3.lt; omega) (hgn b (fun y hy e => n3 (by rw [hy, e]))))
    have gux : Chg g.toList u x := (gl.mono (by simp)).trans hchg
    have husz : w.heap.size + 2 ≤ u.heap.size := by have := gu.size; omega
    have HUS := Lib.hid husz
    have HGU := Lib.hid gu
    have HXP := Lib.hid hxp
    have HRX := Lib.hid hrx
    have HPX := Lib.hid hpx
    have H3X := Lib.hid h3x
    have HGX := Lib.hid gux
    have HSEG := Lib.hid hseg
    have HGG := Lib.hid hgg
    clear hrx hpx h3x gux husz hseg hgg hchg
    clear hU gu hru h1 h2 h3 hi hz0 hz1 hz2 hrun qu hpu hxp
    go_region_law (first
      | (refine step_run (by rfl) (.tmp 74) (.tmp 76) 51 (by rfl) _ _ _ x (by rfl) (by rfl) (HRUN.out _) ?_)
      | fail)
    all_goals
      go_upto_region 9 with fail
      generalize hY : World.setCell x _ _ = y
      have hyp : y.heap[p]? = some (.cells #[.slice ad (L.length + 1) cp, .map (some b)] 53 (0, 0)) := by
        rw [← hY, heap_setCell_at HXP.out]
        rfl
      have gy : Chg [p] x y := by rw [← hY]; exact (Chg.refl _ _).setCell _ (by simp) _
      have h3y := (H3X.out.same (gy.block b H3X.out.lt (by simp; omega)))
      have hry := gy.at HRX.out (by simp; omega)
      have hpy := gy.at HPX.out (by simp; omega)
      rw [HRC.out] at hry
      obtain ⟨w2, hup, hnew, ht⟩ := (MapQ.same (w' := y.drew) h3y rfl).store (by omega) (wfI_of (x := a1) (by omega) (by omega)) (wfI_of (x := a3) (by omega) (by omega)) ⟨a1, a2, a3, a4, a5, a6, a7, a8, a9, a10, a11⟩
      have hup' : (Instr.mapUpdate 50 (.map (some b)) (.agg #[.int .i64 a1, .int .i64 a3]) (.agg #[.int .i64 a1, .int .i64 a2, .int .i64 a3, .int .i64 a4, .int .i64 a5, .string a6, .int .i64 a7, .int .i64 a8, .bool a9, .int .i64 a10, .string a11])).run Try.prog y.drew = .ok () w2 := hup
      have k1 : y.cell? ⟨p, 1, none⟩ = some (.map (some b)) := by simp [World.cell?, hyp]
      have k2 : y.cell? ⟨w.heap.size + 1, 0, none⟩ = some (.int .i64 a1) := by simp [World.cell?, hpy]
      have k3 : y.cell? ⟨w.heap.size + 1, 1, none⟩ = some (.int .i64 a3) := by simp [World.cell?, hpy]
      have m0 : y.cell? ⟨w.heap.size, 0, none⟩ = some (.int .i64 a1) := by simp [World.cell?, hry]
      have m1 : y.cell? ⟨w.heap.size, 1, none⟩ = some (.int .i64 a2) := by simp [World.cell?, hry]
      have m2 : y.cell? ⟨w.heap.size, 2, none⟩ = some (.int .i64 a3) := by simp [World.cell?, hry]
      have m3 : y.cell? ⟨w.heap.size, 3, none⟩ = some (.int .i64 a4) := by simp [World.cell?, hry]
      have m4 : y.cell? ⟨w.heap.size, 4, none⟩ = some (.int .i64 a5) := by simp [World.cell?, hry]
      have m5 : y.cell? ⟨w.heap.size, 5, none⟩ = some (.string a6) := by simp [World.cell?, hry]
      have m6 : y.cell? ⟨w.heap.size, 6, none⟩ = some (.int .i64 a7) := by simp [World.cell?, hry]
      have m7 : y.cell? ⟨w.heap.size, 7, none⟩ = some (.int .i64 a8) := by simp [World.cell?, hry]
      have m8 : y.cell? ⟨w.heap.size, 8, none⟩ = some (.bool a9) := by simp [World.cell?, hry]
      have m9 : y.cell? ⟨w.heap.size, 9, none⟩ = some (.int .i64 a10) := by simp [World.cell?, hry]
      have m10 : y.cell? ⟨w.heap.size, 10, none⟩ = some (.string a11) := by simp [World.cell?, hry]
      have hyl := lt_of_block hyp
      have gT : Chg [b] y w2 := ((Chg.refl _ y).drew).trans (Chg.of_grown ht.grown)
      have hb0 : pushB L ⟨a1, a2, a3, a4, a5, a6, a7, a8, a9, a10, a11⟩ = true := by simp [pushB, HV.out, HX.out]
      have hpl0 : pushL L ⟨a1, a2, a3, a4, a5, a6, a7, a8, a9, a10, a11⟩ = L ++ [⟨a1, a2, a3, a4, a5, a6, a7, a8, a9, a10, a11⟩] := by simp [pushL, hb0, HX.out]
      have hok := ok.push ⟨a1, a2, a3, a4, a5, a6, a7, a8, a9, a10, a11⟩
      have hat := atF_push hb0
      rw [hpl0] at hok hat
      have hus := HUS.out
      have gw : Chg (p :: b :: g.toList) w w2 := (((GZ.out.trans HGU.out).mono (by simp)).trans (HGX.out.mono (by simp; intro q hq; exact .inr (.inr hq)))).trans ((gy.mono (by simp)).trans (gT.mono (by simp)))
      have hg' : g' ≠ some p ∧ g' ≠ some b ∧ (g' = g ∨ ∃ x, g' = some x ∧ w.heap.size ≤ x) := by
        rcases HGG.out with e | ⟨q, e, hq⟩
        · rw [e]; exact ⟨n2, n3, .inl rfl⟩
        · have hq2 : u.heap.size ≤ q := by simp at hq; exact Nat.le_trans (by have := gl.size; simp at this; omega) hq
          exact ⟨by rw [e]; intro e2; injection e2 with e2; omega, by rw [e]; intro e2; injection e2 with e2; omega, .inr ⟨q, e, by omega⟩⟩
      have hfin : ∃ g', QAt w2 p b g' (L ++ [⟨a1, a2, a3, a4, a5, a6, a7, a8, a9, a10, a11⟩]) ∧ Chg (p :: b :: g.toList) w w2 ∧ (g' = g ∨ ∃ x, g' = some x ∧ w.heap.size ≤ x) := by
        refine ⟨g', ⟨_, gT.at hyp (by simp; omega), ?_, ?_, n1, hg'.1, hg'.2.1, hok⟩, gw, hg'.2.2⟩
        · rw [plc_app]
          have := HSEG.out.chg (gy.mono (S' := [p, b]) (by simp)) (fun q hq => by simp; exact ⟨fun e => hg'.1 (by rw [hq, e]), fun e => hg'.2.1 (by rw [hq, e])⟩)
          have := this.chg (gT.mono (S' := [p, b]) (by simp)) (fun q hq => by simp; exact ⟨fun e => hg'.1 (by rw [hq, e]), fun e => hg'.2.1 (by rw [hq, e])⟩)
          simpa using this
        · have := hnew (atF (L ++ [⟨a1, a2, a3, a4, a5, a6, a7, a8, a9, a10, a11⟩])) hat.1 (fun x' y' h => hat.2 x' y' h)
          rw [HX.out] at this
          simpa using this
      have HFIN := Lib.hid hfin
      clear hfin gw hg' hat hok hpl0 hb0 gT hus
      clear hY hyp gy h3y hry hpy hup hnew ht
      go_region
      all_goals
        go_wp2
        go_ret
        exact ⟨rfl, HFIN.out⟩

end Go.Proofs.Ytjamdffaieocmaa
