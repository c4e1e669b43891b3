/-
  The queue: the contract of Push, of a place that has an Ask.
-/
import Derived.Test.YtjamdffaieocmaaQueuePush
import Derived.Deep.CutBlock
import Derived.Deep.RegionLaw
namespace Go.Proofs.Ytjamdffaieocmaa
open Go.RowKit Go.ChangeMaps

set_option maxRecDepth 100000 in
set_option maxHeartbeats 4000000 in
theorem pushOld {w : World} {p b : Nat} {g : Option Nat} {L : List AskV} (h : QAt w p b g L) (r x0 : AskV) (hv : okV r = true) (hx : atF L r.slot r.shard = some x0) :
    Calls Try.prog 11 #[.pointer (some ⟨p, 0, none⟩), r.val] w fun e w' => e = .returned (.bool (!olderB x0 r)) ∧
      (QAt w' p b g (if olderB x0 r then L else putL L r) ∧ Chg (p :: b :: g.toList) w w') := by
  have hval := (okV_iff r).1 hv
  have H := Lib.hid h
  have hsm := h.choose_spec.2.2.2.2.2.2.small
  obtain ⟨v, h1, h2, h3, n1, n2, n3, ok⟩ := h
  have hp := lt_of_block h1
  have hb := h3.lt
  have hgl := h2.lt
  obtain ⟨a1, a2, a3, a4, a5, a6, a7, a8, a9, a10, a11⟩ := r
  obtain ⟨b1, b2, b3, b4, b5, b6, b7, b8, b9, b10, b11⟩ := x0
  simp only at hval hx
  obtain ⟨v1, v2, v3, v4⟩ := hval
  have RV := Lib.hid (rfl : (⟨a1, a2, a3, a4, a5, a6, a7, a8, a9, a10, a11⟩ : AskV) = ⟨a1, a2, a3, a4, a5, a6, a7, a8, a9, a10, a11⟩)
  generalize hO : olderB ⟨b1, b2, b3, b4, b5, b6, b7, b8, b9, b10, b11⟩ ⟨a1, a2, a3, a4, a5, a6, a7, a8, a9, a10, a11⟩ = ob
  generalize hLL : (if ob = true then L else putL L ⟨a1, a2, a3, a4, a5, a6, a7, a8, a9, a10, a11⟩) = LL
  have HLL := Lib.hid hLL
  clear hLL
  have HO := Lib.hid hO
  clear hO
  show Calls Try.prog 11 #[.pointer (some ⟨p, 0, none⟩), .agg #[.int .i64 a1, .int .i64 a2, .int .i64 a3, .int .i64 a4, .int .i64 a5, .string a6, .int .i64 a7, .int .i64 a8, .bool a9, .int .i64 a10, .string a11]] w _
  clear h1 h2 h3
  go_enter Try.func11, Try.ntmps11
  go_upto_region 4 with fail
  obtain ⟨rc, hrc⟩ : ∃ rc, rc = Obj.cells #[.int .i64 a1, .int .i64 a2, .int .i64 a3, .int .i64 a4, .int .i64 a5, .string a6, .int .i64 a7, .int .i64 a8, .bool a9, .int .i64 a10, .string a11] 32 (0, 0) := ⟨_, rfl⟩
  obtain ⟨z, hz⟩ : ∃ z, z = (w.alloc rc).alloc (.cells #[.int .i64 a1, .int .i64 a3] 56) := ⟨_, rfl⟩
  rw [← hrc, ← hz]
  have gz : Chg ([] : List Nat) w z := hz ▸ ((Chg.refl _ _).alloc _).alloc _
  have hrz : z.heap[w.heap.size]? = some rc := by
    have := heap_alloc_new w rc
    rw [hz]
    exact (Below.heap_alloc _ _ _ (by simp)).trans this
  have hpz : z.heap[w.heap.size + 1]? = some (.cells #[.int .i64 a1, .int .i64 a3] 56 (0, 0)) := by
    rw [hz]
    have := heap_alloc_new (w.alloc rc) (.cells #[.int .i64 a1, .int .i64 a3] 56)
    simpa using this
  have hsz : z.heap.size = w.heap.size + 2 := by rw [hz]; simp
  have hq := H.out.chg gz (by simp) (by simp) (by simp)
  obtain ⟨v, h1, h2, h3, _⟩ := id hq
  have hx' : atF L a1 a3 = some ⟨b1, b2, b3, b4, b5, b6, b7, b8, b9, b10, b11⟩ := hx
  have hlook : ∀ W : World, W.heap[b]? = z.heap[b]? → (Instr.lookup 50 (.map (some b)) (.agg #[.int .i64 a1, .int .i64 a3]) true).run Try.prog W = .ok (.tuple #[.agg #[.int .i64 b1, .int .i64 b2, .int .i64 b3, .int .i64 b4, .int .i64 b5, .string b6, .int .i64 b7, .int .i64 b8, .bool b9, .int .i64 b10, .string b11], .bool true]) W := fun W hW => by
    have := (h3.same hW).look_ok (wfI_of (x := a1) (by omega) (by omega)) (wfI_of (x := a3) (by omega) (by omega))
    rw [hx'] at this
    exact this
  have hl0 := hlook z.drew rfl
  have hl1 : ∀ o, _ := fun o => hlook (z.alloc o).drew (Below.heap_alloc _ _ _ h3.lt)
  have c1 : z.cell? ⟨p, 1, none⟩ = some (.map (some b)) := by simp [World.cell?, h1]
  have d0 : z.cell? ⟨w.heap.size + 1, 0, none⟩ = some (.int .i64 a1) := by simp [World.cell?, hpz]
  have d1 : z.cell? ⟨w.heap.size + 1, 1, none⟩ = some (.int .i64 a3) := by simp [World.cell?, hpz]
  have hpl := lt_of_block h1
  have HRC := Lib.hid hrc
  have HRZ := Lib.hid hrz
  have HPZ := Lib.hid hpz
  have HQ := Lib.hid hq
  have GZ := Lib.hid gz
  have HX := Lib.hid hx'
  have HV := Lib.hid hv
  clear hlook hz hrc hrz hpz hq gz h1 h2 h3 hx hx' hv
  go_region_held3 (fun w' => w'.cell? ⟨p, 1, none⟩ = some (.map (some b)) ∧ w'.cell? ⟨w.heap.size + 1, 0, none⟩ = some (.int .i64 a1) ∧ w'.cell? ⟨w.heap.size + 1, 1, none⟩ = some (.int .i64 a3)) (go_keep) (fail)
  all_goals
    generalize hU : World.drew _ = u
    have gu : Chg ([] : List Nat) z u := by rw [← hU]; exact ((Chg.refl _ _).alloc _).drew
    have hxu : u.heap[w.heap.size + 2]? = some (.cells #[.int .i64 b1, .int .i64 b2, .int .i64 b3, .int .i64 b4, .int .i64 b5, .string b6, .int .i64 b7, .int .i64 b8, .bool b9, .int .i64 b10, .string b11] 32 (0, 0)) := by
      rw [← hU, ← hsz]
      exact heap_alloc_new _ _
    have qu := HQ.out.chg gu (by simp) (by simp) (by simp)
    have hpu := gu.at HPZ.out (by simp)
    have hru := gu.at HRZ.out (by simp)
    rw [HRC.out] at hru
    obtain ⟨v, h1, h2, h3, _⟩ := id qu
    have HQU := Lib.hid qu
    have HGW := Lib.hid ((GZ.out.trans gu).mono (S' := p :: b :: g.toList) (by simp))
    have HMQ := Lib.hid h3
    have HSG := Lib.hid h2
    have HUP := Lib.hid h1
    have k1 : u.cell? ⟨p, 1, none⟩ = some (.map (some b)) := by simp [World.cell?, h1]
    have k2 : u.cell? ⟨w.heap.size + 1, 0, none⟩ = some (.int .i64 a1) := by simp [World.cell?, hpu]
    have k3 : u.cell? ⟨w.heap.size + 1, 1, none⟩ = some (.int .i64 a3) := by simp [World.cell?, hpu]
    have m0 : u.cell? ⟨w.heap.size, 0, none⟩ = some (.int .i64 a1) := by simp [World.cell?, hru]
    have m1 : u.cell? ⟨w.heap.size, 1, none⟩ = some (.int .i64 a2) := by simp [World.cell?, hru]
    have m2 : u.cell? ⟨w.heap.size, 2, none⟩ = some (.int .i64 a3) := by simp [World.cell?, hru]
    have m3 : u.cell? ⟨w.heap.size, 3, none⟩ = some (.int .i64 a4) := by simp [World.cell?, hru]
    have m4 : u.cell? ⟨w.heap.size, 4, none⟩ = some (.int .i64 a5) := by simp [World.cell?, hru]
    have m5 : u.cell? ⟨w.heap.size, 5, none⟩ = some (.string a6) := by simp [World.cell?, hru]
    have m6 : u.cell? ⟨w.heap.size, 6, none⟩ = some (.int .i64 a7) := by simp [World.cell?, hru]
    have m7 : u.cell? ⟨w.heap.size, 7, none⟩ = some (.int .i64 a8) := by simp [World.cell?, hru]
    have m8 : u.cell? ⟨w.heap.size, 8, none⟩ = some (.bool a9) := by simp [World.cell?, hru]
    have m9 : u.cell? ⟨w.heap.size, 9, none⟩ = some (.int .i64 a10) := by simp [World.cell?, hru]
    have m10 : u.cell? ⟨w.heap.size, 10, none⟩ = some (.string a11) := by simp [World.cell?, hru]
    have x1 : u.cell? ⟨w.heap.size + 2, 1, none⟩ = some (.int .i64 b2) := by simp [World.cell?, hxu]
    have x3 : u.cell? ⟨w.heap.size + 2, 3, none⟩ = some (.int .i64 b4) := by simp [World.cell?, hxu]
    have hyl := lt_of_block h1
    clear hU gu hxu qu hpu hru h1 h2 h3 hl0 hl1 c1 d0 d1
    by_cases e1 : a2 < b2
    · skip
      have HRES := Lib.hid (show olderB ⟨b1, b2, b3, b4, b5, b6, b7, b8, b9, b10, b11⟩ ⟨a1, a2, a3, a4, a5, a6, a7, a8, a9, a10, a11⟩ = true by simp [olderB]; omega)
      have d2 : decide (a2 < b2) = true := by simp; omega
      have d4 : (b2 == a2) = false := by simp; omega
      go_wp2
      go_ret
      obtain rfl : ob = true := by rw [← HO.out]; exact HRES.out
      have hll := HLL.out
      simp only [if_true] at hll
      exact ⟨rfl, hll ▸ HQU.out, HGW.out⟩
    by_cases e2 : b2 = a2
    · by_cases e3 : a4 < b4
      · skip
        have HRES := Lib.hid (show olderB ⟨b1, b2, b3, b4, b5, b6, b7, b8, b9, b10, b11⟩ ⟨a1, a2, a3, a4, a5, a6, a7, a8, a9, a10, a11⟩ = true by simp [olderB]; omega)
        have d1 : decide (a2 < b2) = false := by simp; omega
        have d2 : (b2 == a2) = true := by simp; omega
        have d3 : decide (a4 < b4) = true := by simp; omega
        clear e1 e2 e3
        go_wp2
        go_ret
        obtain rfl : ob = true := by rw [← HO.out]; exact HRES.out
        have hll := HLL.out
        simp only [if_true] at hll
        exact ⟨rfl, hll ▸ HQU.out, HGW.out⟩
      · skip
        have HRES := Lib.hid (show olderB ⟨b1, b2, b3, b4, b5, b6, b7, b8, b9, b10, b11⟩ ⟨a1, a2, a3, a4, a5, a6, a7, a8, a9, a10, a11⟩ = false by simp [olderB]; omega)
        have d1 : decide (a2 < b2) = false := by simp; omega
        have d2 : (b2 == a2) = true := by simp; omega
        have d3 : decide (a4 < b4) = false := by simp; omega
        clear e1 e2 e3
        go_upto_region 9 with fail
        obtain ⟨w2, hup, hnew, ht⟩ := (MapQ.same (w' := u.drew) HMQ.out rfl).store (by omega) (wfI_of (x := a1) (by omega) (by omega)) (wfI_of (x := a3) (by omega) (by omega)) ⟨a1, a2, a3, a4, a5, a6, a7, a8, a9, a10, a11⟩
        have hup' : (Instr.mapUpdate 50 (.map (some b)) (.agg #[.int .i64 a1, .int .i64 a3]) (.agg #[.int .i64 a1, .int .i64 a2, .int .i64 a3, .int .i64 a4, .int .i64 a5, .string a6, .int .i64 a7, .int .i64 a8, .bool a9, .int .i64 a10, .string a11])).run Try.prog u.drew = .ok () w2 := hup
        have gT : Chg [b] u w2 := ((Chg.refl _ u).drew).trans (Chg.of_grown ht.grown)
        have hb0 : pushB L ⟨a1, a2, a3, a4, a5, a6, a7, a8, a9, a10, a11⟩ = true := by simp [pushB, HV.out, HX.out, HRES.out]
        have hpl0 : pushL L ⟨a1, a2, a3, a4, a5, a6, a7, a8, a9, a10, a11⟩ = putL L ⟨a1, a2, a3, a4, a5, a6, a7, a8, a9, a10, a11⟩ := by simp [pushL, hb0, HX.out]
        have hok := ok.push ⟨a1, a2, a3, a4, a5, a6, a7, a8, a9, a10, a11⟩
        have hat := atF_push hb0
        rw [hpl0] at hok hat
        have hfin : QAt w2 p b g (putL L ⟨a1, a2, a3, a4, a5, a6, a7, a8, a9, a10, a11⟩) ∧ Chg (p :: b :: g.toList) w w2 := by
          refine ⟨⟨_, gT.at HUP.out (by simp; omega), ?_, ?_, n1, n2, n3, hok⟩, HGW.out.trans (gT.mono (by simp))⟩
          · rw [plc_put, put_len]
            exact HSG.out.chg gT (fun q hq => by simp; exact fun e => n3 (by rw [hq, e]))
          · have := hnew (atF (putL L ⟨a1, a2, a3, a4, a5, a6, a7, a8, a9, a10, a11⟩)) hat.1 (fun x' y' h => hat.2 x' y' h)
            rw [HX.out] at this
            rw [put_len]
            exact this
        have HFIN := Lib.hid hfin
        clear hfin hat hok hpl0 hb0 gT hup hnew ht
        go_region
        all_goals
          go_wp2
          go_ret
          obtain rfl : ob = false := by rw [← HO.out]; exact HRES.out
          have hll := HLL.out
          simp only [Bool.false_eq_true, if_false] at hll
          exact ⟨rfl, hll ▸ HFIN.out⟩
    · skip
      have HRES := Lib.hid (show olderB ⟨b1, b2, b3, b4, b5, b6, b7, b8, b9, b10, b11⟩ ⟨a1, a2, a3, a4, a5, a6, a7, a8, a9, a10, a11⟩ = false by simp [olderB]; omega)
      have d1 : decide (a2 < b2) = false := by simp; omega
      have d2 : (b2 == a2) = false := by simp; omega
      clear e1 e2
      go_upto_region 9 with fail
      obtain ⟨w2, hup, hnew, ht⟩ := (MapQ.same (w' := u.drew) HMQ.out rfl).store (by omega) (wfI_of (x := a1) (by omega) (by omega)) (wfI_of (x := a3) (by omega) (by omega)) ⟨a1, a2, a3, a4, a5, a6, a7, a8, a9, a10, a11⟩
      have hup' : (Instr.mapUpdate 50 (.map (some b)) (.agg #[.int .i64 a1, .int .i64 a3]) (.agg #[.int .i64 a1, .int .i64 a2, .int .i64 a3, .int .i64 a4, .int .i64 a5, .string a6, .int .i64 a7, .int .i64 a8, .bool a9, .int .i64 a10, .string a11])).run Try.prog u.drew = .ok () w2 := hup
      have gT : Chg [b] u w2 := ((Chg.refl _ u).drew).trans (Chg.of_grown ht.grown)
      have hb0 : pushB L ⟨a1, a2, a3, a4, a5, a6, a7, a8, a9, a10, a11⟩ = true := by simp [pushB, HV.out, HX.out, HRES.out]
      have hpl0 : pushL L ⟨a1, a2, a3, a4, a5, a6, a7, a8, a9, a10, a11⟩ = putL L ⟨a1, a2, a3, a4, a5, a6, a7, a8, a9, a10, a11⟩ := by simp [pushL, hb0, HX.out]
      have hok := ok.push ⟨a1, a2, a3, a4, a5, a6, a7, a8, a9, a10, a11⟩
      have hat := atF_push hb0
      rw [hpl0] at hok hat
      have hfin : QAt w2 p b g (putL L ⟨a1, a2, a3, a4, a5, a6, a7, a8, a9, a10, a11⟩) ∧ Chg (p :: b :: g.toList) w w2 := by
        refine ⟨⟨_, gT.at HUP.out (by simp; omega), ?_, ?_, n1, n2, n3, hok⟩, HGW.out.trans (gT.mono (by simp))⟩
        · rw [plc_put, put_len]
          exact HSG.out.chg gT (fun q hq => by simp; exact fun e => n3 (by rw [hq, e]))
        · have := hnew (atF (putL L ⟨a1, a2, a3, a4, a5, a6, a7, a8, a9, a10, a11⟩)) hat.1 (fun x' y' h => hat.2 x' y' h)
          rw [HX.out] at this
          rw [put_len]
          exact this
      have HFIN := Lib.hid hfin
      clear hfin hat hok hpl0 hb0 gT hup hnew ht
      go_region
      all_goals
        go_wp2
        go_ret
        obtain rfl : ob = false := by rw [← HO.out]; exact HRES.out
        have hll := HLL.out
        simp only [Bool.false_eq_true, if_false] at hll
        exact ⟨rfl, hll ▸ HFIN.out⟩

theorem pushC {w : World} {p b : Nat} {g : Option Nat} {L : List AskV} (h : QAt w p b g L) (r : AskV) :
    Calls Try.prog 11 #[.pointer (some ⟨p, 0, none⟩), r.val] w fun e w' => e = .returned (.bool (pushB L r)) ∧
      ∃ g', QAt w' p b g' (pushL L r) ∧ Chg (p :: b :: g.toList) w w' ∧ (g' = g ∨ ∃ x, g' = some x ∧ w.heap.size ≤ x) := by
  cases hv : okV r with
  | false =>
    refine (pushBad r w p hv).mono fun e w' ⟨he, hb⟩ => ?_
    have hc : Chg ([] : List Nat) w w' := Chg.of_below hb
    exact ⟨by simpa [pushB, hv] using he, g, by simpa [pushL, pushB, hv] using h.chg hc (by simp) (by simp) (by simp), hc.mono (by simp), .inl rfl⟩
  | true =>
    cases hx : atF L r.slot r.shard with
    | none =>
      refine (pushNew h r hv hx).mono fun e w' ⟨he, g', hq, hr⟩ => ?_
      exact ⟨by simpa [pushB, hv, hx] using he, g', by simpa [pushL, pushB, hv, hx] using hq, hr⟩
    | some x0 =>
      refine (pushOld h r x0 hv hx).mono fun e w' ⟨he, hq, hc⟩ => ?_
      refine ⟨by simpa [pushB, hv, hx] using he, g, ?_, hc, .inl rfl⟩
      cases ho : olderB x0 r <;> simpa [pushL, pushB, hv, hx, ho] using hq

end Go.Proofs.Ytjamdffaieocmaa
