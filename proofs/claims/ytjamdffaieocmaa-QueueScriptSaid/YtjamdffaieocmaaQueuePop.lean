/-
  The queue: the contract of Pop.
-/
import Derived.Test.YtjamdffaieocmaaQueuePushO
namespace Go.Proofs.Ytjamdffaieocmaa
open Go.RowKit Go.ChangeMaps

theorem results_cell {fn : Func} {c u : Tmp} {ty : TypeId} {P : Program} {w : World} {g : Nat} {v : Value} {tmps : Array Value} (h : fn.results = #[.cell c ty, .tmp u]) (hc : tmps.getD c undef = .pointer (some ⟨g, 0, none⟩))
    (hload : (loadVar ty ⟨g, 0, none⟩).run P w = .ok v w) : (results fn tmps).run P w = .ok (.tuple #[v, tmps.getD u undef]) w := by
  simp [results, h, asAddr, Result.andThen]
  simp at hc
  rw [hc]
  simp [hload]

theorem load_ask {w : World} {g : Nat} {r : AskV} (h : w.heap[g]? = some (.cells r.cells.toArray 32 (0, 0))) : (loadVar 32 ⟨g, 0, none⟩).run Try.prog w = .ok r.val w :=
  run_loadVar_row w g 32 32 _ (0, 0) _ h Try.underlying32 rfl (by kernel_rfl)

theorem fill_ask {w : World} {g : Nat} {r0 : AskV} (h : w.heap[g]? = some (.cells r0.cells.toArray 32 (0, 0))) (r : AskV) :
    (World.setCell (World.setCell (World.setCell (World.setCell (World.setCell (World.setCell (World.setCell (World.setCell (World.setCell (World.setCell (World.setCell w ⟨g, 0, none⟩ (.int .i64 r.slot)) ⟨g, 1, none⟩ (.int .i64 r.query)) ⟨g, 2, none⟩ (.int .i64 r.shard)) ⟨g, 3, none⟩ (.int .i64 r.seq)) ⟨g, 4, none⟩ (.int .i64 r.epoch)) ⟨g, 5, none⟩ (.string r.text)) ⟨g, 6, none⟩ (.int .i64 r.k)) ⟨g, 7, none⟩ (.int .i64 r.batch)) ⟨g, 8, none⟩ (.bool r.first)) ⟨g, 9, none⟩ (.int .i64 r.dist)) ⟨g, 10, none⟩ (.string r.word)).heap[g]? = some (.cells r.cells.toArray 32 (0, 0)) := by
  have h0 := h
  simp only [AskV.cells] at h0
  have h1 := heap_setCell_at (i := 0) h0 (.int .i64 r.slot)
  simp only [List.setIfInBounds_toArray, List.set_cons_zero, List.set_cons_succ] at h1
  have h2 := heap_setCell_at (i := 1) h1 (.int .i64 r.query)
  simp only [List.setIfInBounds_toArray, List.set_cons_zero, List.set_cons_succ] at h2
  have h3 := heap_setCell_at (i := 2) h2 (.int .i64 r.shard)
  simp only [List.setIfInBounds_toArray, List.set_cons_zero, List.set_cons_succ] at h3
  have h4 := heap_setCell_at (i := 3) h3 (.int .i64 r.seq)
  simp only [List.setIfInBounds_toArray, List.set_cons_zero, List.set_cons_succ] at h4
  have h5 := heap_setCell_at (i := 4) h4 (.int .i64 r.epoch)
  simp only [List.setIfInBounds_toArray, List.set_cons_zero, List.set_cons_succ] at h5
  have h6 := heap_setCell_at (i := 5) h5 (.string r.text)
  simp only [List.setIfInBounds_toArray, List.set_cons_zero, List.set_cons_succ] at h6
  have h7 := heap_setCell_at (i := 6) h6 (.int .i64 r.k)
  simp only [List.setIfInBounds_toArray, List.set_cons_zero, List.set_cons_succ] at h7
  have h8 := heap_setCell_at (i := 7) h7 (.int .i64 r.batch)
  simp only [List.setIfInBounds_toArray, List.set_cons_zero, List.set_cons_succ] at h8
  have h9 := heap_setCell_at (i := 8) h8 (.bool r.first)
  simp only [List.setIfInBounds_toArray, List.set_cons_zero, List.set_cons_succ] at h9
  have h10 := heap_setCell_at (i := 9) h9 (.int .i64 r.dist)
  simp only [List.setIfInBounds_toArray, List.set_cons_zero, List.set_cons_succ] at h10
  have h11 := heap_setCell_at (i := 10) h10 (.string r.word)
  simp only [List.setIfInBounds_toArray, List.set_cons_zero, List.set_cons_succ] at h11
  exact h11

theorem chg_ask (w : World) (g : Nat) (r : AskV) : Chg [g] w (World.setCell (World.setCell (World.setCell (World.setCell (World.setCell (World.setCell (World.setCell (World.setCell (World.setCell (World.setCell (World.setCell w ⟨g, 0, none⟩ (.int .i64 r.slot)) ⟨g, 1, none⟩ (.int .i64 r.query)) ⟨g, 2, none⟩ (.int .i64 r.shard)) ⟨g, 3, none⟩ (.int .i64 r.seq)) ⟨g, 4, none⟩ (.int .i64 r.epoch)) ⟨g, 5, none⟩ (.string r.text)) ⟨g, 6, none⟩ (.int .i64 r.k)) ⟨g, 7, none⟩ (.int .i64 r.batch)) ⟨g, 8, none⟩ (.bool r.first)) ⟨g, 9, none⟩ (.int .i64 r.dist)) ⟨g, 10, none⟩ (.string r.word)) :=
  (Chg.setCell (Chg.setCell (Chg.setCell (Chg.setCell (Chg.setCell (Chg.setCell (Chg.setCell (Chg.setCell (Chg.setCell (Chg.setCell (Chg.setCell (Chg.refl [g] w) ⟨g, 0, none⟩ (by simp) (.int .i64 r.slot)) ⟨g, 1, none⟩ (by simp) (.int .i64 r.query)) ⟨g, 2, none⟩ (by simp) (.int .i64 r.shard)) ⟨g, 3, none⟩ (by simp) (.int .i64 r.seq)) ⟨g, 4, none⟩ (by simp) (.int .i64 r.epoch)) ⟨g, 5, none⟩ (by simp) (.string r.text)) ⟨g, 6, none⟩ (by simp) (.int .i64 r.k)) ⟨g, 7, none⟩ (by simp) (.int .i64 r.batch)) ⟨g, 8, none⟩ (by simp) (.bool r.first)) ⟨g, 9, none⟩ (by simp) (.int .i64 r.dist)) ⟨g, 10, none⟩ (by simp) (.string r.word))

theorem popNone {w : World} {p b : Nat} {g : Option Nat} (h : QAt w p b g []) :
    Calls Try.prog 12 #[.pointer (some ⟨p, 0, none⟩)] w fun e w' => e = .returned (.tuple #[(default : AskV).val, .bool false]) ∧ Below w.heap.size w w' := by
  go_enter Try.func12, Try.ntmps12
  go_wp2_with fail
  refine calls_same (lenC (h.chg ((Chg.refl ([] : List Nat) w).alloc _) (by simp) (by simp) (by simp))) ?_
  go_wp2
  refine bodyPost_ret (results_cell rfl rfl (load_ask (r := default) (heap_alloc_new w _))) rfl ?_
  exact ⟨rfl, (Below.refl _ _).alloc (Nat.le_refl _) _⟩

set_option maxRecDepth 100000 in
set_option maxHeartbeats 4000000 in
theorem popSome {w : World} {p b : Nat} {g : Option Nat} {r : AskV} {L : List AskV} (h : QAt w p b g (r :: L)) :
    Calls Try.prog 12 #[.pointer (some ⟨p, 0, none⟩)] w fun e w' => e = .returned (.tuple #[r.val, .bool true]) ∧ QAt w' p b g L ∧ Chg (p :: b :: g.toList) w w' := by
  have hlen := fun o => lenC (h.chg ((Chg.refl ([] : List Nat) w).alloc o) (by simp) (by simp) (by simp))
  have H := Lib.hid h
  obtain ⟨a1, a2, a3, a4, a5, a6, a7, a8, a9, a10, a11⟩ := r
  obtain ⟨v, h1, h2, h3, n1, n2, n3, ok⟩ := h
  have hv := (okV_iff _).1 (ok.valid _ (List.mem_cons_self ..))
  have hat := atF_tail ok
  have hof := atF_of ok (List.mem_cons_self ..)
  have hsm := ok.small
  have hp := lt_of_block h1
  have hb := h3.lt
  obtain ⟨gb, off, cap, rfl, rfl, hgl, hcl⟩ := h2.cell (by decide) 0 (by simp)
  have hc0 := (hcl 0 (.int .i64 a1) (by decide) rfl).1
  have hc1 := (hcl 1 (.int .i64 a3) (by decide) rfl).1
  simp only [Nat.zero_mul, Nat.add_zero] at hc0 hc1
  have c0 : w.cell? ⟨p, 0, none⟩ = some (.slice (some ⟨gb, off, none⟩) (L.length + 1) cap) := by simp [World.cell?, h1]
  have c1 : w.cell? ⟨p, 1, none⟩ = some (.map (some b)) := by simp [World.cell?, h1]
  have f0 : w.frozen? ⟨p, 0, none⟩ = false := by simp [World.frozen?, h1]
  have OK := Lib.hid ok
  have H3 := Lib.hid h3
  have H2 := Lib.hid h2
  have H1 := Lib.hid h1
  skip
  have hln2 : (((L.length : Int) + 1) == 0) = false := by simp; omega
  simp only at hv hat hof
  obtain ⟨v1, v2, v3, v4⟩ := hv
  have hlcap := H2.out.len
  clear h1 h2 h3 hcl ok
  obtain ⟨AD, hAD⟩ : ∃ AD, (if cap = 1 then some (⟨gb, off, none⟩ : Addr) else some ⟨gb, off + 2, none⟩) = AD := ⟨_, rfl⟩
  have HAD := Lib.hid hAD
  go_enter Try.func12, Try.ntmps12
  go_wp2_with fail
  refine calls_same (hlen _) ?_
  clear hlen
  go_upto_region 5 with fail
  clear hAD
  generalize hU : World.alloc (World.alloc (World.setCell w _ _) _) _ = u
  have hup : u.heap[p]? = some (.cells #[.slice AD L.length (cap - 1), .map (some b)] 53 (0, 0)) := by
    rw [← hU, Below.heap_alloc _ _ _ (by simp; omega), Below.heap_alloc _ _ _ (by simp; omega), heap_setCell_at H1.out]
    rfl
  have gu : Chg [p] w u := by rw [← hU]; exact (((Chg.refl _ _).setCell _ (by simp) _).alloc _).alloc _
  have hsc : ∀ V, (w.setCell ⟨p, 0, none⟩ V).heap.size = w.heap.size := fun V => by simp [World.setCell]
  have hz : u.heap[w.heap.size]? = some (.cells (default : AskV).cells.toArray 32 (0, 0)) := by
    rw [← hU, Below.heap_alloc _ _ _ (by simp [hsc])]
    have := heap_alloc_new (w.setCell ⟨p, 0, none⟩ (.slice AD L.length (cap - 1))) (.cells (default : AskV).cells.toArray 32)
    rw [hsc] at this
    exact this
  have hpu : u.heap[w.heap.size + 1]? = some (.cells #[.int .i64 a1, .int .i64 a3] 56 (0, 0)) := by
    rw [← hU]
    have := heap_alloc_new ((w.setCell ⟨p, 0, none⟩ (.slice AD L.length (cap - 1))).alloc (.cells (default : AskV).cells.toArray 32)) (.cells #[.int .i64 a1, .int .i64 a3] 56)
    rw [show ((w.setCell ⟨p, 0, none⟩ (.slice AD L.length (cap - 1))).alloc (.cells (default : AskV).cells.toArray 32)).heap.size = w.heap.size + 1 by simp [hsc]] at this
    exact this
  have hus : u.heap.size = w.heap.size + 2 := by rw [← hU]; simp [World.setCell]
  have h3u := H3.out.same (gu.block b hb (by simp; omega))
  have hseg : Seg u 56 2 (some gb) (.slice AD L.length (cap - 1)) (plc L) L.length :=
    (HAD.out ▸ Seg.tail (x := [.int .i64 a1, .int .i64 a3]) H2.out rfl : Seg w 56 2 (some gb) (.slice AD L.length (cap - 1)) (plc L) L.length).chg gu (fun q hq => by simp; intro e; exact n2 (by rw [hq, e]))
  have hlook : ∀ W : World, W.heap[b]? = u.heap[b]? → (Instr.lookup 50 (.map (some b)) (.agg #[.int .i64 a1, .int .i64 a3]) false).run Try.prog W = .ok (.agg #[.int .i64 a1, .int .i64 a2, .int .i64 a3, .int .i64 a4, .int .i64 a5, .string a6, .int .i64 a7, .int .i64 a8, .bool a9, .int .i64 a10, .string a11]) W := fun W hW => by
    have := (h3u.same hW).look (wfI_of (x := a1) (by omega) (by omega)) (wfI_of (x := a3) (by omega) (by omega))
    rw [hof] at this
    exact this
  have hl0 := hlook u.drew rfl
  have hl1 : ∀ o, _ := fun o => hlook (u.alloc o).drew (Below.heap_alloc _ _ _ h3u.lt)
  have d0 : u.cell? ⟨w.heap.size + 1, 0, none⟩ = some (.int .i64 a1) := by simp [World.cell?, hpu]
  have d1 : u.cell? ⟨w.heap.size + 1, 1, none⟩ = some (.int .i64 a3) := by simp [World.cell?, hpu]
  have k1 : u.cell? ⟨p, 1, none⟩ = some (.map (some b)) := by simp [World.cell?, hup]
  have hpl := lt_of_block hup
  have HUP := Lib.hid hup
  have HGU := Lib.hid gu
  have HZ := Lib.hid hz
  have HPU := Lib.hid hpu
  have H3U := Lib.hid h3u
  have HSEG := Lib.hid hseg
  have HAT := Lib.hid hat
  have HOF := Lib.hid hof
  clear hU hup gu hz hpu h3u hseg hlook hat hof c0 c1 f0 hc0 hc1
  go_region_held3 (fun w' => w'.cell? ⟨p, 1, none⟩ = some (.map (some b)) ∧ w'.cell? ⟨w.heap.size + 1, 0, none⟩ = some (.int .i64 a1) ∧ w'.cell? ⟨w.heap.size + 1, 1, none⟩ = some (.int .i64 a3)) (go_keep) (fail)
  all_goals
    go_upto_region 6 with fail
    generalize hV : World.drew _ = x
    have gx : Chg ([] : List Nat) u x := by rw [← hV]; exact ((Chg.refl _ _).alloc _).drew
    have hrx : x.heap[w.heap.size + 2]? = some (.cells #[.int .i64 a1, .int .i64 a2, .int .i64 a3, .int .i64 a4, .int .i64 a5, .string a6, .int .i64 a7, .int .i64 a8, .bool a9, .int .i64 a10, .string a11] 32 (0, 0)) := by
      rw [← hV, ← hus]
      exact heap_alloc_new _ _
    have hxp := gx.at HUP.out (by simp)
    have hxz := gx.at HZ.out (by simp)
    have hxq := gx.at HPU.out (by simp)
    have h3x := H3U.out.same (gx.block b H3U.out.lt (by simp))
    obtain ⟨w2, hdel, hnew, ht⟩ := (MapQ.same (w' := x.drew) h3x rfl).drop (wfI_of (x := a1) (by omega) (by omega)) (wfI_of (x := a3) (by omega) (by omega))
    have hdel' : ∀ ty, (Builtin.delete_ #[50, 56] ty #[.map (some b), .agg #[.int .i64 a1, .int .i64 a3]]).run Try.prog x.drew = .ok (.tuple #[]) w2 := hdel
    have gT : Chg [b] x w2 := ((Chg.refl _ x).drew).trans (Chg.of_grown ht.grown)
    have hr2 := gT.at hrx (by simp; omega)
    have hz2 := gT.at hxz (by simp; omega)
    have k2 : x.cell? ⟨p, 1, none⟩ = some (.map (some b)) := by simp [World.cell?, hxp]
    have k3 : x.cell? ⟨w.heap.size + 1, 0, none⟩ = some (.int .i64 a1) := by simp [World.cell?, hxq]
    have k4 : x.cell? ⟨w.heap.size + 1, 1, none⟩ = some (.int .i64 a3) := by simp [World.cell?, hxq]
    have hyl := lt_of_block hxp
    have hl2 := lt_of_block hz2
    have hl3 := lt_of_block hr2
    have m0 : w2.cell? ⟨w.heap.size + 2, 0, none⟩ = some (.int .i64 a1) := by simp [World.cell?, hr2]
    have z0 : w2.cell? ⟨w.heap.size, 0, none⟩ = some (.int .i64 0) := by simp [World.cell?, hz2, AskV.cells]; rfl
    have y0 : w2.frozen? ⟨w.heap.size, 0, none⟩ = false := by simp [World.frozen?, hz2]
    have m1 : w2.cell? ⟨w.heap.size + 2, 1, none⟩ = some (.int .i64 a2) := by simp [World.cell?, hr2]
    have z1 : w2.cell? ⟨w.heap.size, 1, none⟩ = some (.int .i64 0) := by simp [World.cell?, hz2, AskV.cells]; rfl
    have y1 : w2.frozen? ⟨w.heap.size, 1, none⟩ = false := by simp [World.frozen?, hz2]
    have m2 : w2.cell? ⟨w.heap.size + 2, 2, none⟩ = some (.int .i64 a3) := by simp [World.cell?, hr2]
    have z2 : w2.cell? ⟨w.heap.size, 2, none⟩ = some (.int .i64 0) := by simp [World.cell?, hz2, AskV.cells]; rfl
    have y2 : w2.frozen? ⟨w.heap.size, 2, none⟩ = false := by simp [World.frozen?, hz2]
    have m3 : w2.cell? ⟨w.heap.size + 2, 3, none⟩ = some (.int .i64 a4) := by simp [World.cell?, hr2]
    have z3 : w2.cell? ⟨w.heap.size, 3, none⟩ = some (.int .i64 0) := by simp [World.cell?, hz2, AskV.cells]; rfl
    have y3 : w2.frozen? ⟨w.heap.size, 3, none⟩ = false := by simp [World.frozen?, hz2]
    have m4 : w2.cell? ⟨w.heap.size + 2, 4, none⟩ = some (.int .i64 a5) := by simp [World.cell?, hr2]
    have z4 : w2.cell? ⟨w.heap.size, 4, none⟩ = some (.int .i64 0) := by simp [World.cell?, hz2, AskV.cells]; rfl
    have y4 : w2.frozen? ⟨w.heap.size, 4, none⟩ = false := by simp [World.frozen?, hz2]
    have m5 : w2.cell? ⟨w.heap.size + 2, 5, none⟩ = some (.string a6) := by simp [World.cell?, hr2]
    have z5 : w2.cell? ⟨w.heap.size, 5, none⟩ = some (.string ByteArray.empty) := by simp [World.cell?, hz2, AskV.cells]; rfl
    have y5 : w2.frozen? ⟨w.heap.size, 5, none⟩ = false := by simp [World.frozen?, hz2]
    have m6 : w2.cell? ⟨w.heap.size + 2, 6, none⟩ = some (.int .i64 a7) := by simp [World.cell?, hr2]
    have z6 : w2.cell? ⟨w.heap.size, 6, none⟩ = some (.int .i64 0) := by simp [World.cell?, hz2, AskV.cells]; rfl
    have y6 : w2.frozen? ⟨w.heap.size, 6, none⟩ = false := by simp [World.frozen?, hz2]
    have m7 : w2.cell? ⟨w.heap.size + 2, 7, none⟩ = some (.int .i64 a8) := by simp [World.cell?, hr2]
    have z7 : w2.cell? ⟨w.heap.size, 7, none⟩ = some (.int .i64 0) := by simp [World.cell?, hz2, AskV.cells]; rfl
    have y7 : w2.frozen? ⟨w.heap.size, 7, none⟩ = false := by simp [World.frozen?, hz2]
    have m8 : w2.cell? ⟨w.heap.size + 2, 8, none⟩ = some (.bool a9) := by simp [World.cell?, hr2]
    have z8 : w2.cell? ⟨w.heap.size, 8, none⟩ = some (.bool false) := by simp [World.cell?, hz2, AskV.cells]; rfl
    have y8 : w2.frozen? ⟨w.heap.size, 8, none⟩ = false := by simp [World.frozen?, hz2]
    have m9 : w2.cell? ⟨w.heap.size + 2, 9, none⟩ = some (.int .i64 a10) := by simp [World.cell?, hr2]
    have z9 : w2.cell? ⟨w.heap.size, 9, none⟩ = some (.int .i64 0) := by simp [World.cell?, hz2, AskV.cells]; rfl
    have y9 : w2.frozen? ⟨w.heap.size, 9, none⟩ = false := by simp [World.frozen?, hz2]
    have m10 : w2.cell? ⟨w.heap.size + 2, 10, none⟩ = some (.string a11) := by simp [World.cell?, hr2]
    have z10 : w2.cell? ⟨w.heap.size, 10, none⟩ = some (.string ByteArray.empty) := by simp [World.cell?, hz2, AskV.cells]; rfl
    have y10 : w2.frozen? ⟨w.heap.size, 10, none⟩ = false := by simp [World.frozen?, hz2]
    have hat := HAT.out
    have hend : QAt w2 p b (some gb) L ∧ Chg (p :: b :: (some gb).toList) w w2 := by
      refine ⟨⟨_, gT.at hxp (by simp; omega), ?_, ?_, n1, n2, n3, OK.out.tail⟩, (HGU.out.mono (by simp)).trans ((gx.mono (by simp)).trans (gT.mono (by simp)))⟩
      · exact (HSEG.out.chg gx (fun q hq => by simp)).chg gT (fun q hq => by simp; exact fun e => n3 (by rw [hq, e]))
      · have := hnew (atF L) hat.1 (fun x' y' h => hat.2 x' y' h)
        rw [HOF.out] at this
        simpa using this
    have HEND := Lib.hid hend
    have HZ2 := Lib.hid hz2
    clear hend hat hV gx hrx hxp hxz hxq h3x hdel hnew ht gT hr2 hz2
    go_region
    all_goals
      go_wp2
      generalize hY : World.setCell (World.setCell (World.setCell (World.setCell (World.setCell (World.setCell (World.setCell (World.setCell (World.setCell (World.setCell (World.setCell w2 _ _) _ _) _ _) _ _) _ _) _ _) _ _) _ _) _ _) _ _) _ _ = Y
      have hYz : Y.heap[w.heap.size]? = some (.cells (⟨a1, a2, a3, a4, a5, a6, a7, a8, a9, a10, a11⟩ : AskV).cells.toArray 32 (0, 0)) := by
        rw [← hY]
        exact fill_ask HZ2.out ⟨a1, a2, a3, a4, a5, a6, a7, a8, a9, a10, a11⟩
      have gY : Chg [w.heap.size] w2 Y := by
        rw [← hY]
        exact chg_ask w2 w.heap.size ⟨a1, a2, a3, a4, a5, a6, a7, a8, a9, a10, a11⟩
      have gY2 : Chg (p :: b :: (some gb).toList) w Y := HEND.out.2.new gY (by simp)
      clear hY
      refine bodyPost_ret (results_cell rfl rfl (load_ask hYz)) rfl ?_
      exact ⟨rfl, HEND.out.1.chg gY (by simp; omega) (by simp; omega) (fun q hq => by simp at hq ⊢; omega), gY2⟩

end Go.Proofs.Ytjamdffaieocmaa
