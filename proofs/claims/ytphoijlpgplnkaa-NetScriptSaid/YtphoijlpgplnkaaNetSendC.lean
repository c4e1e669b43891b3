/-
  The net: the contract of Send, walked.
-/
import Derived.Test.YtphoijlpgplnkaaNetSendB
import Derived.Deep.CutBlock
namespace Go.Proofs.Ytphoijlpgplnkaa
open Go.RowKit Go.ChangeMaps

theorem step_callz {P : Program} {w : World} {ops : Array Oper} {o : Oper} {a : Act} {K : Act → World → Prop} {Q : Exit → Act → World → Prop} {E : Prop} (hg : o.guard = none) (f : FuncId) {fn : Func} (hf : P.funcs[f]? = some fn) (hname : (fn.name == "runtime.NumGoroutine") = false) (hb : fn.body.isNone = false) {x : Operand} {t : TypeId}
    (ho : o.op = .call { callee := .value (.func f), args := #[x], argTypes := #[t] }) (v : Value) (hx : a.eval x = v) {R : Ending → World → Prop}
    (hc : Calls P f #[v] w R) (hK : ∀ e w', R e w' → ∃ v', e = .returned v' ∧ K (a.put o.dst v') w') : if Region.wanted o (yielded ops a.tmps) = true then Oper.wp P o a w K Q else E := by
  have hw : Region.wanted o (yielded ops a.tmps) = true := by simp [Region.wanted, hg]
  rw [if_pos hw]
  unfold Oper.wp
  have he : (execOp a.eval o).run P w = .ok (.enter f #[v]) w := by
    have hfv : a.eval (.func f) = .func (.func f) #[] #[] := rfl
    have hn' : fn.name ≠ "runtime.NumGoroutine" := by simpa using hname
    have hb' : fn.body ≠ none := by intro e; rw [e] at hb; cases hb
    simp [execOp, ho, resolve, invoke, hx, hfv, Deferred.ofValue, callFunc, run_program, hf, hn', hb']
  rw [he, Oper.upon_enter]
  refine hc.mono fun e w' hr => ?_
  obtain ⟨v', rfl, hk⟩ := hK e w' hr
  exact hk

def sendL (most : Int) (L : List GV) (x : GV) : List GV := if (L.length : Int) < most then L ++ [x] else L

theorem own_lt {y : World} {p : Nat} {g : Option Nat} {v : Value} {most next : Int} {Ms : List GM} (h : NAt y p g v most next Ms) {fb : Option Nat} (hf : ∀ x, fb = some x → y.heap.size ≤ x) : ∀ x, fb = some x → x ∉ ownN p g Ms := fun x hx e => by
  have := h.lt x e
  have := hf x hx
  omega

/-- What a send leaves. -/
theorem send_step {B : Nat} {F : List Nat} {y z : World} {p : Nat} {g : Option Nat} {vl : Value} {most next : Int} {Ms : List GM} (h : NAt y p g vl most next Ms) (hB : ∀ x ∈ ownN p g Ms, B ≤ x) (hBs : B ≤ y.heap.size) (hF : ∀ x ∈ F, x < y.heap.size ∧ x ∉ ownN p g Ms)
    (hl : (Ms.length : Int) < most) (gv : GV) {v' : Value} {fb : Option Nat} (hs : Seg z 5 1 fb v' (byC gv.fr) gv.fr.length) (hf : ∀ x, fb = some x → y.heap.size ≤ x) (hyz : Below y.heap.size y z) :
    ∃ fa fc va vc t, v' = .slice fa gv.fr.length fc ∧
      (∀ ty, (Builtin.append_ #[54, 54] ty #[vl, .slice (some ⟨z.heap.size, 0, none⟩) 1 1]).run Try.prog (z.alloc (.cells #[.int .i64 gv.id, .int .i64 gv.frm, .int .i64 gv.to, .slice fa gv.fr.length fc, .bool gv.sp] 31 (0, 0))) = .ok (.slice va (Ms.length + 1) vc) t) ∧
      (∃ q, t.cell? ⟨p, 2, none⟩ = some q) ∧ t.frozen? ⟨p, 2, none⟩ = false ∧ p < t.heap.size ∧
      NF B F (t.setCell ⟨p, 2, none⟩ (.slice va (Ms.length + 1) vc)) p most next (Ms.map GM.g ++ [gv]) ∧ Below B y (t.setCell ⟨p, 2, none⟩ (.slice va (Ms.length + 1) vc)) ∧ Kept F y (t.setCell ⟨p, 2, none⟩ (.slice va (Ms.length + 1) vc)) := by
  obtain ⟨fa, fc, rfl, _⟩ := hs.len
  have hz := own_kept h (Chg.of_below (S := []) hyz) (by simp)
  have hno := own_lt h hf
  obtain ⟨v2, t, g', hrun, hn, hc, hq, hfz, hp, hg⟩ := hz.grow ⟨gv, .slice fa gv.fr.length fc, fb⟩ hs hno hl
  obtain ⟨va, vc, hv, _⟩ := hn.s.len
  subst hv
  simp only [List.length_append, List.length_singleton] at hrun hn hc
  have hyt : Chg (p :: g.toList) y (t.setCell ⟨p, 2, none⟩ (.slice va (Ms.length + 1) vc)) := (Chg.of_below hyz).trans hc
  have hsub : ∀ x ∈ p :: g.toList, x ∈ ownN p g Ms := fun x hx => by
    simp only [ownN, List.mem_cons, List.mem_append] at hx ⊢
    rcases hx with hx | hx
    · exact .inl hx
    · exact .inr (.inl hx)
  refine ⟨fa, fc, va, vc, t, rfl, hrun, hq, hfz, hp, ⟨g', _, _, hn, by simp, ?_, Nat.le_trans hBs hyt.size, fun x hx => ⟨Nat.lt_of_lt_of_le (hF x hx).1 hyt.size, ?_⟩⟩, hyt.below (fun x hx => hB x (hsub x hx)) hBs, Kept.of_chg hyt (fun x hx => (hF x hx).1) (fun x hx e => (hF x hx).2 (hsub x e))⟩
  · intro x hx
    simp only [ownN, List.mem_cons, List.mem_append, List.filterMap_append, Option.mem_toList] at hx
    rcases hx with rfl | hx | hx | hx
    · exact hB _ (by simp [ownN])
    · rcases hg with e | ⟨q, e, hq⟩
      · exact hB x (by simp [ownN, ← e, hx])
      · rw [hx] at e; injection e with e
        have := hyz.size
        omega
    · exact hB x (by simp [ownN] at hx ⊢; exact .inr (.inr hx))
    · simp at hx
      have := hf x hx
      omega
  · intro e
    simp only [ownN, List.mem_cons, List.mem_append, List.filterMap_append, Option.mem_toList] at e
    have h1 := (hF x hx).1
    rcases e with rfl | e | e | e
    · exact (hF _ hx).2 (by simp [ownN])
    · rcases hg with e2 | ⟨q, e2, hq⟩
      · exact (hF _ hx).2 (by simp [ownN, ← e2, e])
      · rw [e] at e2; injection e2 with e2
        have := hyz.size
        omega
    · exact (hF _ hx).2 (by simp [ownN] at e ⊢; exact .inr (.inr e))
    · simp at e
      have := hf x e
      omega

theorem reads_turn {w w' : World} {p : Nat} {g : Option Nat} {vl : Value} {most next : Int} {Ms : List GM} {v : Value} {bs : List Int} (hr : Reads w .u8 v bs) (h : NAt w p g vl most next Ms) (hc : Chg [p] w w') : Reads w' .u8 v bs := by
  obtain ⟨a, cap, rfl, hm, hn, hx⟩ := hr
  refine ⟨a, cap, rfl, hm, hn, fun i hi => ?_⟩
  obtain ⟨b, off, rfl, hb, hcell⟩ := hx i hi
  have hne : b ≠ p := by
    rintro rfl
    obtain ⟨al, cl, hv, _⟩ := h.s.len
    have hc1 := h.c
    rw [hv] at hc1
    simp only [World.cell?, hc1] at hcell
    match off + i, hcell with
    | 0, hcell => simp at hcell
    | 1, hcell => simp at hcell
    | 2, hcell => simp at hcell
    | k + 3, hcell => simp at hcell
  exact ⟨b, off, rfl, Nat.lt_of_lt_of_le hb hc.size, (World.cell?_of_block (hc.block b hb (by simpa using hne))).trans hcell⟩

set_option maxRecDepth 100000 in
set_option maxHeartbeats 1000000 in
theorem sendC {B : Nat} {F : List Nat} {w : World} {p : Nat} {most next : Int} {L : List GV} (h : NF B F w p most next L) (hnx : next < 1000) (frm tt : Int) (v : Value) (bs : List Int) (hr : Reads w .u8 v bs) (hbs : bs.length ≤ 100000) :
    Calls Try.prog 9 #[.pointer (some ⟨p, 0, none⟩), .int .i64 frm, .int .i64 tt, v] w fun e w' => e = .returned (.tuple #[.int .i64 next, .bool (decide ((L.length : Int) < most))]) ∧
      NF B F w' p most (next + 1) (sendL most L ⟨next, frm, tt, bs, false⟩) ∧ Below B w w' ∧ Kept F w w' := by
  have H := Lib.hid h
  obtain ⟨g, vl, Ms, hn, rfl, hB, hBs, hF⟩ := h
  have h1 := hn.c
  obtain ⟨al, cl, rfl, hn1, hm⟩ := hn.s.len
  have c0 : w.cell? ⟨p, 0, none⟩ = some (.int .i64 most) := by simp [World.cell?, h1]
  have c1 : w.cell? ⟨p, 1, none⟩ = some (.int .i64 next) := by simp [World.cell?, h1]
  have c2 : w.cell? ⟨p, 2, none⟩ = some (.slice al Ms.length cl) := by simp [World.cell?, h1]
  have f1 : w.frozen? ⟨p, 1, none⟩ = false := by simp [World.frozen?, h1]
  have hp := lt_of_block h1
  have n1 := hn.n1
  have n2 := hn.n2
  have m1 := hn.m1
  have m2 := hn.m2
  have hll := hn.l
  unfold maxLen at hm
  have hnt := hn.turn hnx
  have gt : Chg [p] w (w.setCell ⟨p, 1, none⟩ (.int .i64 (next + 1))) := (Chg.refl _ _).setCell _ (by simp) _
  obtain ⟨u, hu⟩ : ∃ u, u = w.setCell ⟨p, 1, none⟩ (.int .i64 (next + 1)) := ⟨_, rfl⟩
  rw [← hu] at hnt gt
  have HU := Lib.hid hu
  have HNT := Lib.hid hnt
  have GT := Lib.hid gt
  have HN := Lib.hid hn
  have HR := Lib.hid hr
  have d1 := hnt.c
  have k0 : u.cell? ⟨p, 0, none⟩ = some (.int .i64 most) := by simp [World.cell?, d1]
  have k2 : u.cell? ⟨p, 2, none⟩ = some (.slice al Ms.length cl) := by simp [World.cell?, d1]
  have hpu := lt_of_block d1
  clear hn h1 hu hnt gt hr d1
  go_enter Try.func9, Try.ntmps9
  go_upto_region 5 with fail
  rw [← HU.out]
  clear HU
  go_quiet (fail)
  all_goals
    have gy : Chg ([] : List Nat) u (u.drewN nq) := chg_drewN _ _
    have hny := HNT.out.kept (Kept.of_chg gy HNT.out.lt (by simp))
    have GY := Lib.hid (GT.out.trans (gy.mono (by simp)))
    clear gy HNT GT k0 k2 hpu
    generalize u.drewN nq = y at *
    have d1 := hny.c
    have k2 : y.cell? ⟨p, 2, none⟩ = some (.slice al Ms.length cl) := by simp [World.cell?, d1]
    have hpy := lt_of_block d1
    have HNY := Lib.hid hny
    have HBY := Lib.hid (Nat.le_trans hBs GY.out.size)
    have HFY := Lib.hid (fun x hx => (⟨Nat.lt_of_lt_of_le (hF x hx).1 GY.out.size, (hF x hx).2⟩ : x < y.heap.size ∧ x ∉ ownN p g Ms))
    clear d1 hny
    by_cases hlt : (Ms.length : Int) < most
    · have hne : ¬ (Ms.length : Int) = most := by omega
      have hRy := reads_turn HR.out HN.out GY.out
      have hcl := cloneB v bs y.drew hRy.drew (by omega)
      have HC := Lib.hid hcl
      clear hcl hRy
      go_upto_region 7 with fail
      go_region_law (first
        | (refine step_callz (x := .tmp 43) (t := 29) (by rfl) 30 Try.func30 (by kernel_rfl) (by kernel_rfl) (by rfl) v (by kernel_rfl) HC.out ?_; rintro e z ⟨v', rfl, g', s', hf', b'⟩; refine ⟨_, rfl, ?_⟩; have kz : z.cell? ⟨p, 2, none⟩ = some (.slice al Ms.length cl) := (b'.cell hpy).trans k2; have hpz : p < z.heap.size := Nat.lt_of_lt_of_le hpy b'.size; obtain ⟨fa, fc, va, vc, t, rfl, hrun, ⟨q, hq⟩, hfz, hpt, hfin⟩ := send_step HNY.out hB HBY.out HFY.out hlt ⟨next, frm, tt, bs, false⟩ s' hf' ⟨b'.os, b'.tape, b'.output, b'.size, b'.block⟩; have HRUN := Lib.hid hrun; have HFIN := Lib.hid hfin; clear hrun hfin s' b' hf')
        | (refine step_run (by rfl) (.tmp 39) (.tmp 46) 54 (by rfl) _ _ _ t (by rfl) (by rfl) (HRUN.out _) ?_)
        | fail)
      all_goals
        have gwy : Below B w y := GY.out.below (fun x hx => by simp only [List.mem_singleton] at hx; subst hx; exact hB _ (by simp [ownN])) hBs
        have kwy : Kept F w y := Kept.of_chg GY.out (fun x hx => (hF x hx).1) (fun x hx e => (hF x hx).2 (by simp only [List.mem_singleton] at e; subst e; simp [ownN]))
        have HF2 := Lib.hid (And.intro HFIN.out.1 (And.intro (gwy.trans HFIN.out.2.1) (kwy.trans HFIN.out.2.2)))
        clear gwy kwy
        go_wp2_with fail
        go_ret2
        refine ⟨by simp [hlt], ?_, HF2.out.2.1, HF2.out.2.2⟩
        unfold sendL
        rw [if_pos (by simpa using hlt)]
        exact HF2.out.1
    · have heq : (Ms.length : Int) = most := by omega
      have HNF : NF B F y p most (next + 1) (Ms.map GM.g) := ⟨g, _, Ms, HNY.out, rfl, hB, HBY.out, HFY.out⟩
      have HQ := Lib.hid HNF
      have gwy : Below B w y := GY.out.below (fun x hx => by simp only [List.mem_singleton] at hx; subst hx; exact hB _ (by simp [ownN])) hBs
      have kwy : Kept F w y := Kept.of_chg GY.out (fun x hx => (hF x hx).1) (fun x hx e => (hF x hx).2 (by simp only [List.mem_singleton] at e; subst e; simp [ownN]))
      have HB2 := Lib.hid gwy
      have HK2 := Lib.hid kwy
      clear HNF gwy kwy
      go_wp2_with fail
      go_ret2
      refine ⟨by simp [hlt], ?_, HB2.out, HK2.out⟩
      unfold sendL
      rw [if_neg (by simpa using hlt)]
      exact HQ.out

end Go.Proofs.Ytphoijlpgplnkaa
