/-
  QueueFirst, walked.
-/
import Derived.Test.YtjamdffaieocmaaQueueFirstP
import Derived.Test.YtjamdffaieocmaaLow
import Derived.Test.YtjamdffaieocmaaOpenReads
import Derived.Laws.AppendOwnNone
import Derived.Deep.RegionLaw
namespace Go.Proofs.Ytjamdffaieocmaa
open Go.RowKit Go.ChangeMaps

theorem infoInt : (Try.prog.info? 3).map (fun i => (i.zero, i.size, i.bytes)) = some (some (.int .i64 0), 1, 8) := by kernel_rfl

/-- append, its run known, at an operation of a plain region. -/
theorem wpList_run {P : Program} {w : World} {ops : Array Oper} {rest : List Oper} {o : Oper} {a : Act} {Q : Exit → Act → World → Prop} (hg : o.guard = none) (s x : Operand) (t : TypeId)
    (ho : o.op = .call { callee := .builtin .append, args := #[s, x], argTypes := #[t, t] }) (v vx v' : Value) (w' : World) (hs : a.eval s = v) (hx : a.eval x = vx)
    (hrun : (Builtin.append_ #[t, t] o.type #[v, vx]).run P w = .ok v' w') (h : wpList P ops Q rest (a.put o.dst v') w') : wpList P ops Q (o :: rest) a w :=
  wpList_plain hg fun _ hK => by
    unfold Oper.wp
    simp [execOp, ho, resolve, invoke, builtin, hs, hx, hrun, Result.andThen]
    exact hK _ _ h

def intsC (ws : List Int) : List Value := ws.map (Value.int .i64)

theorem chg_drewN (w : World) (n : Nat) : Chg ([] : List Nat) w (w.drewN n) := ⟨rfl, rfl, rfl, Nat.le_refl _, fun _ _ _ => rfl⟩

/-- What the first loop keeps. -/
structure Fsa (B ab : Nat) (w0 w : World) (p b : Nat) (L : List AskV) (ws : List Int) (n : Int) (g : Option Nat) (v : Value) : Prop where
  q : QF B (ab :: g.toList) w p b L
  a : w.heap[ab]? = some (.cells (seenA ws) 26 (0, 0))
  s : Seg w 3 1 g v (intsC ws) ws.length
  i : FInv L ws n
  bl : Below B w0 w
  ba : B ≤ ab
  ga : g ≠ some ab
  gb : ∀ x, g = some x → B ≤ x

theorem FInv.small {L : List AskV} {ws : List Int} {n : Int} (h : FInv L ws n) : ws.length ≤ 24 := by
  rw [h.keys, List.length_map]
  exact h.ok.small

theorem Fsa.push {B ab : Nat} {w0 w : World} {p b : Nat} {L : List AskV} {ws : List Int} {n : Int} {g : Option Nat} {v : Value} (h : Fsa B ab w0 w p b L ws n g v) (k : Nat) (hk : k < 24) :
    Calls Try.prog 11 #[.pointer (some ⟨p, 0, none⟩), (firstA k n).val] w fun e w' => e = .returned (.bool true) ∧
      QF B (ab :: g.toList) w' p b (pushL L (firstA k n)) ∧ w'.heap[ab]? = some (.cells (seenA ws) 26 (0, 0)) ∧ Seg w' 3 1 g v (intsC ws) ws.length ∧ Below B w0 w' := by
  refine (pushF h.q (firstA k n)).mono fun e w' ⟨he, hq, hb, hk'⟩ => ⟨?_, hq, ?_, h.s.kept (hk'.mono fun y hy => List.mem_cons_of_mem _ hy), h.bl.trans (hb)⟩
  · rw [he, (first_push h.i k (by omega) (by omega)).1]
  · rw [hk' ab (by simp)]
    exact h.a

/-- A place seen for the first time: its number is appended, its letter set. -/
theorem Fsa.grow {B ab m : Nat} {w0 wr z z' t : World} {p b : Nat} {L L' : List AskV} {ws : List Int} {n n' : Int} {g g2 : Option Nat} {v v' : Value} (h : Fsa B ab w0 wr p b L ws n g v) (q1 : QF B (ab :: g.toList) z p b L')
    (hat : t.heap[ab]? = some (.cells (seenA ws) 26 (0, 0))) (b1 : Below B w0 z) (gl : Chg ([] : List Nat) z z') (hc : Chg g.toList z' t) (hgg : g2 = g ∨ ∃ x, g2 = some x ∧ z'.heap.size ≤ x)
    (hs : Seg t 3 1 g2 v' (intsC (ws ++ [(m : Int)])) (ws.length + 1)) (hi : FInv L' (ws ++ [(m : Int)]) n') (hss : (seenA ws).setIfInBounds m (.bool true) = seenA (ws ++ [(m : Int)])) :
    Fsa B ab w0 (t.setCell ⟨ab, m, none⟩ (.bool true)) p b L' (ws ++ [(m : Int)]) n' g2 v' := by
  have hB : B ≤ z.heap.size := q1.size
  have hab := q1.lt (x := ab) (by simp)
  have gt : Chg (ab :: g.toList) z t := (gl.mono (by simp)).trans (hc.mono fun x hx => List.mem_cons_of_mem _ hx)
  have hba := h.ba
  have hg2 : g2 ≠ some ab := by
    rcases hgg with e | ⟨x, e, hx⟩
    · rw [e]; exact h.ga
    · rw [e]
      intro e'
      injection e' with e'
      have := gl.size
      omega
  have hgb : ∀ x, g2 = some x → B ≤ x := fun x hx => by
    rcases hgg with e | ⟨y, e, hy⟩
    · exact h.gb x (e ▸ hx)
    · rw [hx] at e
      injection e with e
      have := gl.size
      omega
  have q2 : QF B (ab :: g2.toList) t p b L' := by
    rcases hgg with e | ⟨x, e, hx⟩
    · rw [e]; exact q1.chg gt
    · rw [e]
      refine (q1.add (x := x) gt (Nat.le_trans gl.size hx) (hs.lt x e)).mono fun y hy => ?_
      simp only [Option.toList_some, List.mem_cons, List.not_mem_nil, or_false] at hy
      rcases hy with rfl | rfl
      · simp
      · simp
  have gs : Chg [ab] t (t.setCell ⟨ab, m, none⟩ (.bool true)) := (Chg.refl _ _).setCell _ (by simp) _
  refine ⟨q2.chg (gs.mono (by simp)), ?_, ?_, hi, ?_, hba, hg2, hgb⟩
  · rw [← hss]
    exact heap_setCell_at hat _
  · rw [List.length_append]
    exact hs.chg gs (fun x hx => by
      simp only [List.mem_singleton]
      rintro rfl
      exact hg2 hx)
  · refine b1.trans ((gt.trans (gs.mono (by simp))).below (fun x hx => ?_) hB)
    simp only [List.mem_cons, Option.mem_toList] at hx
    rcases hx with rfl | hx
    · exact hba
    · exact h.gb x hx

/-- A place seen before. -/
theorem Fsa.stay {B ab m : Nat} {w0 wr z : World} {p b : Nat} {L L' : List AskV} {ws : List Int} {n n' : Int} {g : Option Nat} {v : Value} (h : Fsa B ab w0 wr p b L ws n g v) (q1 : QF B (ab :: g.toList) z p b L')
    (hat : z.heap[ab]? = some (.cells (seenA ws) 26 (0, 0))) (b1 : Below B w0 z) (hs : Seg z 3 1 g v (intsC ws) ws.length) (hi : FInv L' ws n') (hss : (seenA ws).setIfInBounds m (.bool true) = seenA ws) :
    Fsa B ab w0 (z.setCell ⟨ab, m, none⟩ (.bool true)) p b L' ws n' g v := by
  have gs : Chg [ab] z (z.setCell ⟨ab, m, none⟩ (.bool true)) := (Chg.refl _ _).setCell _ (by simp) _
  refine ⟨q1.chg (gs.mono (by simp)), ?_, ?_, hi, ?_, h.ba, h.ga, h.gb⟩
  · have := heap_setCell_at (i := m) hat (.bool true)
    rw [hss] at this
    exact this
  · exact hs.chg gs (fun x hx => by
      simp only [List.mem_singleton]
      rintro rfl
      exact h.ga hx)
  · refine b1.trans (gs.below (fun x hx => ?_) q1.size)
    simp only [List.mem_singleton] at hx
    subst hx
    exact h.ba

set_option maxRecDepth 100000 in
set_option maxHeartbeats 4000000 in
theorem firstC (v : Value) (xs : List Int) (w : World) (h : Reads w .i64 v xs) : Calls Try.prog 3 #[v] w fun e w' => e = .returned (.bool true) ∧ Below w.heap.size w w' := by
  obtain ⟨a, cap, rfl, hm, hc⟩ := reads_len h
  have H := Lib.hid h
  unfold maxLen at hm
  by_cases hgr : 24 < xs.length
  · go_enter Try.func3, Try.ntmps3
    go_wp2_with fail
    refine calls_let (awakeC w) ?_
    intro x hx
    have HX := Lib.hid hx
    clear hx
    go_wp2
    go_ret
    exact ⟨rfl, HX.out⟩
  go_enter Try.func3, Try.ntmps3
  go_wp2_with fail
  refine calls_let (newF w) ?_
  rintro x ⟨q0, b0⟩
  generalize hp : w.heap.size + 1 = p at *
  obtain ⟨b, hb⟩ : ∃ b, b = w.heap.size := ⟨_, rfl⟩
  rw [← hb] at q0
  have HB := Lib.hid hb
  obtain ⟨y, hy⟩ : ∃ y, y = x.alloc (.cells (seenA []) 26) := ⟨_, rfl⟩
  have gy : Chg ([] : List Nat) x y := hy ▸ (Chg.refl _ _).alloc _
  have hya : y.heap[x.heap.size]? = some (.cells (seenA []) 26 (0, 0)) := hy ▸ heap_alloc_new _ _
  generalize hab : x.heap.size = ab at *
  rw [seen_nil] at hy
  have fs : Fsa w.heap.size ab w y p b [] [] 0 none (.slice none 0 0) := by
    rw [hb] at q0
    refine ⟨?_, hya, Seg.nil _ _ _, FInv.nil, b0.trans (gy.nil_below.mono b0.size), ?_, by simp, by simp⟩
    · rw [hb]
      exact q0.add gy (by omega) (lt_of_block hya)
    · have := b0.size
      omega
  have FS0 := Lib.hid fs
  have HY := Lib.hid hy
  have B0 := Lib.hid b0
  clear fs hy b0 gy hya hb hp q0
  go_wp2_with fail
  rw [← HY.out]
  obtain ⟨B, hbb⟩ : ∃ B, B = w.heap.size := ⟨_, rfl⟩
  rw [← hbb] at FS0
  have HBB := Lib.hid hbb
  have hyab := lt_of_block FS0.out.a
  clear B0 HY hab hbb
  go_loopw [5, 6] (fun v5 v6 wr => ∃ (k : Nat) (L : List AskV) (ws : List Int) (g : Option Nat), v6 = .int .i64 k ∧ k ≤ xs.length ∧ Fsa B ab w wr p b L ws k g v5) (fun _ v6 _ => xs.length - (intOf v6).toNat)
  case atStart => exact ⟨0, [], [], none, rfl, Nat.zero_le _, FS0.out⟩
  case round =>
    obtain ⟨k, L, ws, g, rfl, hk, hf⟩ := hrel
    obtain ⟨a5, cap5, rfl, hc5, hm5⟩ := hf.s.len
    unfold maxLen at hm5
    have HF := Lib.hid hf
    by_cases hlt : k < xs.length
    · obtain ⟨b', off, rfl, hb', hcl⟩ := (H.out.below (HBB.out ▸ hf.bl)).slot k hlt
      have r1 : (0 : Int) ≤ (k : Int) := by omega
      have r2 : (k : Int) < (xs.length : Int) := by omega
      obtain ⟨q, hq⟩ : ∃ q, q = xs.getD k 0 := ⟨_, rfl⟩
      rw [← hq] at hcl
      have HLOW := Lib.hid (lowC q 24 wr (by decide) (by decide))
      have hlb := low_bd q 24 (by decide)
      obtain ⟨m, hm⟩ : ∃ m : Nat, low q 24 = m := ⟨(low q 24).toNat, by omega⟩
      rw [hm] at HLOW hlb
      clear hf hq hm
      go_wp2_with fail
      refine calls_same HLOW.out ?_
      go_wp2_with fail
      refine calls_let (HF.out.push m (by omega)) ?_
      rintro z ⟨q1, a1, s1, b1⟩
      have hsm := HF.out.i.small
      have hzab := lt_of_block a1
      have c1 : z.cell? ⟨ab, m, none⟩ = some (.bool (ws.contains (m : Int))) := by simp only [World.cell?, a1]; rw [seen_get _ _ (by omega)]; rfl
      have f1 : z.frozen? ⟨ab, m, none⟩ = false := by simp [World.frozen?, a1]
      have hm0 : (0 : Int) ≤ (m : Int) := by omega
      have hm1 : (m : Int) < 24 := by omega
      have hnx := (first_push HF.out.i m hm0 hm1).2
      have QZ := Lib.hid q1
      have AZ := Lib.hid a1
      have SZ := Lib.hid s1
      have BZ := Lib.hid b1
      have hss := seen_set ws m (by omega)
      cases hcn : ws.contains (m : Int)
      · rw [hcn] at c1 hnx hss
        simp only [Bool.false_eq_true, if_false] at hnx hss
        obtain ⟨lit, hlit⟩ : ∃ lit, lit = Obj.cells #[.int .i64 (m : Int)] 3 (0, 0) := ⟨_, rfl⟩
        obtain ⟨i0, hi, hz0, hz1, hz2⟩ := info_parts infoInt
        have gl : Chg ([] : List Nat) z (z.alloc lit) := (Chg.refl _ _).alloc _
        obtain ⟨v', t, g2, hrun, hseg2, hchg, hgg, _⟩ := (s1.chg gl (by simp)).append (P := Try.prog) 22 i0 (.int .i64 0) 8 Try.underlying22 hi hz0 hz1 hz2 rfl (by decide)
          ⟨z.heap.size, 0, none⟩ 1 1 (by decide) [.int .i64 (m : Int)] rfl (fun j y hj => by rw [hlit]; exact cell_lit_list z [.int .i64 (m : Int)] _ j y hj) (by simp; rfl) (by unfold maxLen; omega) (by omega)
        obtain ⟨va, vc, rfl, _⟩ := hseg2.len
        rw [hlit] at hrun
        have HRUN := Lib.hid hrun
        have hga : ab ∉ g.toList := fun e => HF.out.ga (by simpa using e)
        have hat := hchg.at (gl.at a1 (by simp)) hga
        have c2 : t.cell? ⟨ab, m, none⟩ = some (.bool false) := by simp only [World.cell?, hat]; rw [seen_get _ _ (by omega), hcn]; rfl
        have f2 : t.frozen? ⟨ab, m, none⟩ = false := by simp [World.frozen?, hat]
        have htab := lt_of_block hat
        have hseg3 : Seg t 3 1 g2 (.slice va (ws.length + 1) vc) (intsC (ws ++ [(m : Int)])) (ws.length + 1) := by
          unfold intsC at hseg2 ⊢
          rw [List.map_append]
          exact hseg2
        have HFIN := Lib.hid (HF.out.grow q1 hat b1 gl hchg hgg hseg3 hnx hss)
        clear hnx hss q1 a1 s1 b1 hcn hi hz0 hz1 hz2 hrun hseg2 hseg3 hchg hgg hat gl hga
        go_wp2_with (refine wpList_run (by rfl) (.tmp 44) (.tmp 46) 22 (by rfl) _ _ _ t (by rfl) (by rfl) (HRUN.out _) ?_)
        exact ⟨⟨k + 1, _, _, _, by simp, by omega, by exact HFIN.out⟩, by simp [intOf]; omega⟩
      · rw [hcn] at c1 hnx hss
        simp only [if_true] at hnx hss
        have HFIN := Lib.hid (HF.out.stay q1 a1 b1 s1 hnx hss)
        clear hnx hss q1 a1 s1 b1 hcn
        go_wp2_with fail
        exact ⟨⟨k + 1, _, _, _, by simp, by omega, by exact HFIN.out⟩, by simp [intOf]; omega⟩
    · have hke : k = xs.length := by omega
      have hsm := hf.i.small
      have I0 := Lib.hid hf.i
      have hq0 := hf.q.mono (F' := g.toList) (fun x hx => List.mem_cons_of_mem _ hx)
      have hg0 := hf.gb
      have hs0 := hf.s
      have hb0 := hf.bl
      have QS := Lib.hid (And.intro hq0 (And.intro hs0 hb0))
      have hlw : ws.length = L.length := by rw [hf.i.keys, List.length_map]
      have HLW := Lib.hid hlw
      clear hf H h FS0 hyab HF hq0 hs0 hb0 hlw hke
      go_wp2_with fail
      go_loopw [8] (fun v8 wr => ∃ j : Nat, v8 = .int .i64 j ∧ j ≤ ws.length ∧ QF B g.toList wr p b (L.drop j) ∧ Seg wr 3 1 g (.slice a5 ws.length cap5) (intsC ws) ws.length ∧ Below B w wr) (fun v8 _ => ws.length - (intOf v8).toNat)
      case atStart => exact ⟨0, rfl, Nat.zero_le _, QS.out⟩
      case round =>
        obtain ⟨j, rfl, hj, hq, hs, hb⟩ := hrel
        by_cases hlt2 : j < ws.length
        · have hpop := popF hq
          have hlL : j < L.length := by rw [← HLW.out]; exact hlt2
          have hkj : intsC ws = L.map (fun r => .int .i64 (keyV r)) := by unfold intsC; rw [I0.out.keys, List.map_map]; rfl
          obtain ⟨gb, off5, cp5, hgx, he5, hgl5, hcl5⟩ := hs.cell (by decide) j hlt2
          have hv := (okV_iff _).1 (I0.out.ok.valid _ (List.getElem_mem hlL))
          have hc5 := (hcl5 0 (.int .i64 (keyV L[j])) (by decide) (by rw [hkj]; simp [hlL])).1
          rw [List.drop_eq_getElem_cons hlL] at hpop
          simp only [List.headD_cons, List.tail_cons, List.isEmpty_cons, Bool.not_false] at hpop
          have hel : (L.map (fun r => Value.int .i64 (keyV r)))[j * 1 + 0]? = some (.int .i64 (keyV L[j])) := by simp [hlL]
          unfold keyV at hc5
          rw [show keyV L[j] = L[j].slot * 6 + L[j].shard from rfl] at hel
          generalize hrr : L[j] = r at *
          obtain ⟨a1, a2, a3, a4, a5', a6, a7, a8, a9, a10, a11⟩ := r
          simp only at hv hc5 hel
          have hpop' : Calls Try.prog 12 #[.pointer (some ⟨p, 0, none⟩)] wr fun e w' => e = .returned (.tuple #[.agg #[.int .i64 a1, .int .i64 a2, .int .i64 a3, .int .i64 a4, .int .i64 a5', .string a6, .int .i64 a7, .int .i64 a8, .bool a9, .int .i64 a10, .string a11], .bool true]) ∧ QF B g.toList w' p b (L.drop (j + 1)) ∧ Below B wr w' ∧ Kept g.toList wr w' := hpop
          have HPOP := Lib.hid hpop'
          have HKJ := Lib.hid hkj
          have HEL := Lib.hid hel
          have HS := Lib.hid hs
          have HB2 := Lib.hid hb
          simp only [Value.slice.injEq, true_and] at he5
          obtain ⟨rfl, rfl⟩ := he5
          clear hpop hpop' hkj hq hs hb hc5 hcl5 hrr hel
          go_wp2_with fail
          refine calls_let HPOP.out ?_
          rintro z ⟨q1, b1, k1⟩
          have hs1 := HS.out.kept k1
          obtain ⟨gb', off', cp', hgx', he', hgl', hcl'⟩ := hs1.cell (by decide) j hlt2
          simp only [Value.slice.injEq, Option.some.injEq, Addr.mk.injEq, and_true, true_and] at he'
          obtain ⟨⟨rfl, rfl⟩, rfl⟩ := he'
          have hc5 := (hcl' 0 (.int .i64 (a1 * 6 + a3)) (by decide) (by rw [HKJ.out]; exact HEL.out)).1
          simp only [Nat.mul_one, Nat.add_zero] at hc5
          obtain ⟨rc, hrc⟩ : ∃ rc, rc = Obj.cells #[.int .i64 a1, .int .i64 a2, .int .i64 a3, .int .i64 a4, .int .i64 a5', .string a6, .int .i64 a7, .int .i64 a8, .bool a9, .int .i64 a10, .string a11] 32 (0, 0) := ⟨_, rfl⟩
          obtain ⟨t, ht⟩ : ∃ t, t = z.alloc rc := ⟨_, rfl⟩
          have gt : Chg ([] : List Nat) z t := ht ▸ (Chg.refl _ _).alloc _
          have hta : t.heap[z.heap.size]? = some rc := ht ▸ heap_alloc_new _ _
          have k0 : t.cell? ⟨z.heap.size, 0, none⟩ = some (.int .i64 a1) := by simp [World.cell?, hta, hrc]
          have k2 : t.cell? ⟨z.heap.size, 2, none⟩ = some (.int .i64 a3) := by simp [World.cell?, hta, hrc]
          have kw : t.cell? ⟨gb, off5 + j, none⟩ = some (.int .i64 (a1 * 6 + a3)) := (gt.nil_below.cell hgl').trans hc5
          have hzl := lt_of_block hta
          have hgt : gb < t.heap.size := Nat.lt_of_lt_of_le hgl' gt.size
          have HQ := Lib.hid (q1.chg (gt.mono (by simp)))
          have HSS := Lib.hid (hs1.chg gt (by simp))
          have HBB2 := Lib.hid (HB2.out.trans (b1.trans (gt.nil_below.mono q1.size)))
          have HT := Lib.hid ht
          have HRC := Lib.hid hrc
          have r1 : (0 : Int) ≤ (j : Int) := by omega
          have r2 : (j : Int) < (ws.length : Int) := by omega
          obtain ⟨v1, v2, v3, v4⟩ := hv
          clear q1 b1 k1 hs1 hcl' hgx hgx' hc5 gt hta ht hrc
          go_upto_region 21 with fail
          rw [← HRC.out, ← HT.out]
          clear HT HRC
          go_quiet (fail)
          all_goals
            have gd : Chg ([] : List Nat) t (t.drewN nq) := chg_drewN _ _
            have HQ2 := Lib.hid (HQ.out.chg (gd.mono (by simp)))
            have HSS2 := Lib.hid (HSS.out.chg gd (by simp))
            have HBB3 := Lib.hid (HBB2.out.trans (gd.nil_below.mono HQ.out.size))
            clear gd HQ HSS HBB2
            generalize t.drewN nq = t2 at *
            go_wp2_with fail
            exact ⟨⟨j + 1, by simp, by omega, HQ2.out, HSS2.out, HBB3.out⟩, by simp [intOf]; omega⟩
        · obtain rfl : j = ws.length := by omega
          rw [HLW.out, List.drop_of_length_le (Nat.le_refl _)] at hq
          have hpop := popF hq
          have hpop' : Calls Try.prog 12 #[.pointer (some ⟨p, 0, none⟩)] wr fun e w' => e = .returned (.tuple #[.agg #[.int .i64 0, .int .i64 0, .int .i64 0, .int .i64 0, .int .i64 0, .string ByteArray.empty, .int .i64 0, .int .i64 0, .bool false, .int .i64 0, .string ByteArray.empty], .bool false]) ∧ QF B g.toList w' p b [] ∧ Below B wr w' ∧ Kept g.toList wr w' := hpop
          have HPOP := Lib.hid hpop'
          have HB2 := Lib.hid hb
          clear hpop hpop' hq hs hb
          go_wp2_with fail
          refine calls_let HPOP.out ?_
          rintro z ⟨q1, b1, k1⟩
          have hz := HB2.out.trans b1
          have hzs := q1.size
          have HZ := Lib.hid (hz.alloc q1.size (.cells #[.int .i64 0, .int .i64 0, .int .i64 0, .int .i64 0, .int .i64 0, .string ByteArray.empty, .int .i64 0, .int .i64 0, .bool false, .int .i64 0, .string ByteArray.empty] 32 (0, 0)))
          clear hz q1 b1 k1
          go_wp2_with fail
          refine calls_let (awakeC _) ?_
          intro t ht
          have HT := Lib.hid (HZ.out.trans (ht.mono (by simp; omega)))
          clear ht
          go_wp2
          go_ret
          exact ⟨rfl, HBB.out ▸ HT.out⟩

end Go.Proofs.Ytjamdffaieocmaa
