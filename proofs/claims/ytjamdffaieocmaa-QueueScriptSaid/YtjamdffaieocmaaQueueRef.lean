/-
  The document's queue: contracts of its three calls.
-/
import Derived.Test.YtjamdffaieocmaaQueueSame
import Derived.Laws.OwnMore
import Derived.Deep.RegionLaw
import Derived.Deep.CutBlock
namespace Go.Proofs.Ytjamdffaieocmaa
open Go.RowKit Go.ChangeMaps

/-- append, its run known, at an operation of a plain region. -/
theorem wpList_run {P : Program} {w : World} {ops : Array Oper} {rest : List Oper} {o : Oper} {a : Act} {Q : Exit → Act → World → Prop} (hg : o.guard = none) (s x : Operand) (t : TypeId)
    (ho : o.op = .call { callee := .builtin .append, args := #[s, x], argTypes := #[t, t] }) (v vx v' : Value) (w' : World) (hs : a.eval s = v) (hx : a.eval x = vx)
    (hrun : (Builtin.append_ #[t, t] o.type #[v, vx]).run P w = .ok v' w') (h : wpList P ops Q rest (a.put o.dst v') w') : wpList P ops Q (o :: rest) a w :=
  wpList_plain hg fun _ hK => by
    unfold Oper.wp
    simp [execOp, ho, resolve, invoke, builtin, hs, hx, hrun, Result.andThen]
    exact hK _ _ h

/-- append onto nothing: a list of one's own. -/
theorem seg_clone {w : World} {g : Option Nat} {v : Value} {L : List AskV} (h : Seg w 32 11 g v (askC L) L.length) (hL : L.length < 1000000) :
    ∃ v' w' g', (∀ ty, (Builtin.append_ #[40, 40] ty #[.slice none 0 0, v]).run Try.prog w = .ok v' w') ∧ Seg w' 32 11 g' v' (askC L) L.length ∧ Chg ([] : List Nat) w w' ∧ ∀ x, g' = some x → w.heap.size ≤ x := by
  obtain ⟨i0, hi, hz0, hz1, hz2⟩ := info_parts infoAsk
  obtain ⟨hl, ⟨rfl, rfl, h0⟩ | ⟨b, off, cap, cur, rfl, rfl, hh, h1, h2, h3, h4⟩⟩ := h
  · have hr := run_append_owned_none (P := Try.prog) (w := w) w.heap.size 40 0 32 i0 11 Try.underlying40 hi (.slice none 0 0) 0 [] (World.ownsRow_nil _ _ _ _)
    have hc : askC L = [] := List.length_eq_zero_iff.1 (by omega)
    refine ⟨_, w, none, fun _ => hr, ?_, Chg.refl _ _, fun x hx => by cases hx⟩
    rw [hc, h0]
    exact Seg.nil _ _ _
  · have holds : ∀ j u, (askC L)[j]? = some u → w.cell? ((⟨b, off, none⟩ : Addr).add j) = some u := fun j u hu => by
      have hj : j < L.length * 11 := by rw [← hl]; exact (List.getElem?_eq_some_iff.1 hu).1
      have e : (⟨b, off, none⟩ : Addr).add j = ⟨b, off + j, none⟩ := by cases j <;> simp [Addr.add]
      rw [e]
      simp only [World.cell?, hh]
      rw [h4 j hj, hu]
      rfl
    obtain ⟨v', w', hr, ho, hg, hn⟩ := run_append_own (P := Try.prog) (w := w) w.heap.size 40 0 32 i0 (default : AskV).val 11 104 Try.underlying40 hi hz0 hz1 hz2 rfl (by decide) (.slice none 0 0) 0 [] (World.ownsRow_nil _ _ _ _) ⟨b, off, none⟩ L.length cap (askC L) (by rw [hl]) holds
      (fun u hu => by
        obtain ⟨r, _, hr⟩ := List.mem_flatMap.1 hu
        exact cells_one r u hr) (by unfold maxLen; omega) (by omega) (Nat.le_refl _)
    obtain ⟨g', hs, hB⟩ := Seg.of_owns ho
    refine ⟨v', w', g', fun _ => hr, by simpa using hs, ⟨hg.os, hg.tape, hg.output, hg.size, fun k hk _ => hg.block k hk (by simp [Value.ownBlock])⟩, hB⟩

/-- What the document's queue holds. -/
def RAt (w : World) (p : Nat) (g : Option Nat) (L : List AskV) : Prop :=
  ∃ v, w.heap[p]? = some (.cells #[v] 46 (0, 0)) ∧ Seg w 32 11 g v (askC L) L.length ∧ g ≠ some p

theorem RAt.kept {w w' : World} {p : Nat} {g : Option Nat} {L : List AskV} (h : RAt w p g L) (hk : Kept (p :: g.toList) w w') : RAt w' p g L := by
  obtain ⟨v, h1, h2, h3⟩ := h
  exact ⟨v, (hk p (by simp)).trans h1, h2.kept (hk.mono fun x hx => List.mem_cons_of_mem _ hx), h3⟩

theorem RAt.lt {w : World} {p : Nat} {g : Option Nat} {L : List AskV} (h : RAt w p g L) : ∀ x ∈ p :: g.toList, x < w.heap.size := by
  obtain ⟨v, h1, h2, h3⟩ := h
  intro x hx
  rcases List.mem_cons.1 hx with rfl | hx
  · exact lt_of_block h1
  · exact h2.lt x (by simpa using hx)

/-- A call's leave: the queue's own block is turned, the rest is new. -/
structure RL (w w' : World) (p : Nat) (g g' : Option Nat) (L' : List AskV) : Prop where
  at' : RAt w' p g' L'
  c : Chg [p] w w'
  g : g' = g ∨ ∀ x, g' = some x → w.heap.size ≤ x

set_option maxRecDepth 100000 in
set_option maxHeartbeats 4000000 in
theorem rpopC {w : World} {p : Nat} {g : Option Nat} {L : List AskV} (h : RAt w p g L) (hL : L.length < 1000) :
    Calls Try.prog 18 #[.pointer (some ⟨p, 0, none⟩)] w fun e w' => e = .returned (.tuple #[(L.headD default).val, .bool (!L.isEmpty)]) ∧ ∃ g', RL w w' p g g' L.tail := by
  obtain ⟨v, h1, h2, h3⟩ := id h
  obtain ⟨a, cap, rfl, hn, hm⟩ := h2.len
  have hp := lt_of_block h1
  have c0 : w.cell? ⟨p, 0, none⟩ = some (.slice a L.length cap) := by simp [World.cell?, h1]
  unfold maxLen at hm
  have H := Lib.hid h
  cases L with
  | nil =>
    clear h h1 h2
    show Calls Try.prog 18 #[.pointer (some ⟨p, 0, none⟩)] w fun e w' => e = .returned (.tuple #[(default : AskV).val, .bool false]) ∧ ∃ g', RL w w' p g g' []
    go_enter Try.func18, Try.ntmps18
    go_wp2_with fail
    refine bodyPost_ret (results_cell rfl rfl (load_ask (r := default) (heap_alloc_new w _))) rfl ?_
    have gc : Chg ([] : List Nat) w (w.alloc (.cells (default : AskV).cells.toArray 32 (0, 0))) := (Chg.refl _ _).alloc _
    exact ⟨rfl, g, H.out.kept (Kept.of_chg gc H.out.lt (by simp)), gc.mono (by simp), .inl rfl⟩
  | cons r L =>
    have hg0 : 0 < (r :: L).length := by simp
    obtain ⟨gb, off, cap', rfl, he, hgl, hcl⟩ := h2.cell (by decide) 0 hg0
    simp only [Value.slice.injEq, true_and] at he
    obtain ⟨rfl, rfl⟩ := he
    have hcl' : ∀ j u, r.cells[j]? = some u → j < 11 → w.cell? ⟨gb, off + j, none⟩ = some u := fun j u hu hj => by
      have := (hcl j u hj (by rw [askC_get _ 0 j hg0 hj]; exact hu)).1
      simpa using this
    have htl := Seg.tail (sz := 11) (x := r.cells) (cs := askC L) (n := L.length) (by simpa [askC] using h2) rfl
    obtain ⟨AD, hAD⟩ : ∃ AD, (if cap = 1 then some (⟨gb, off, none⟩ : Addr) else some ⟨gb, off + 11, none⟩) = AD := ⟨_, rfl⟩
    rw [hAD] at htl
    obtain ⟨a1, a2, a3, a4, a5, a6, a7, a8, a9, a10, a11⟩ := r
    have w0 := hcl' 0 _ rfl (by decide)
    have w1 := hcl' 1 _ rfl (by decide)
    have w2 := hcl' 2 _ rfl (by decide)
    have w3 := hcl' 3 _ rfl (by decide)
    have w4 := hcl' 4 _ rfl (by decide)
    have w5 := hcl' 5 _ rfl (by decide)
    have w6 := hcl' 6 _ rfl (by decide)
    have w7 := hcl' 7 _ rfl (by decide)
    have w8 := hcl' 8 _ rfl (by decide)
    have w9 := hcl' 9 _ rfl (by decide)
    have w10 := hcl' 10 _ rfl (by decide)
    simp only [Nat.add_zero] at w0
    obtain ⟨u, hu⟩ : ∃ u, u = (w.alloc (.cells (default : AskV).cells.toArray 32 (0, 0))).alloc (.cells #[.int .i64 a1, .int .i64 a2, .int .i64 a3, .int .i64 a4, .int .i64 a5, .string a6, .int .i64 a7, .int .i64 a8, .bool a9, .int .i64 a10, .string a11] 32 (0, 0)) := ⟨_, rfl⟩
    have gu : Chg ([] : List Nat) w u := hu ▸ ((Chg.refl _ _).alloc _).alloc _
    have hz : u.heap[w.heap.size]? = some (.cells (default : AskV).cells.toArray 32 (0, 0)) := by
      rw [hu, Below.heap_alloc _ _ _ (by simp)]
      exact heap_alloc_new _ _
    have hr : u.heap[w.heap.size + 1]? = some (.cells #[.int .i64 a1, .int .i64 a2, .int .i64 a3, .int .i64 a4, .int .i64 a5, .string a6, .int .i64 a7, .int .i64 a8, .bool a9, .int .i64 a10, .string a11] 32 (0, 0)) := by
      rw [hu]
      have := heap_alloc_new (w.alloc (.cells (default : AskV).cells.toArray 32 (0, 0))) (.cells #[.int .i64 a1, .int .i64 a2, .int .i64 a3, .int .i64 a4, .int .i64 a5, .string a6, .int .i64 a7, .int .i64 a8, .bool a9, .int .i64 a10, .string a11] 32 (0, 0))
      simpa using this
    have hpu := gu.at h1 (by simp)
    have k0 : u.cell? ⟨p, 0, none⟩ = some (.slice (some ⟨gb, off, none⟩) (L.length + 1) cap) := by simp [World.cell?, hpu]
    have hpl := lt_of_block hpu
    obtain ⟨v', t, g', hrun, hs', gt, hgt⟩ := seg_clone (htl.chg gu (by simp)) (by simp at hL; omega)
    have gY0 : Chg [p] u (t.setCell ⟨p, 0, none⟩ v') := (gt.mono (by simp)).setCell _ (by simp) _
    obtain ⟨av, cv, rfl, _⟩ := hs'.len
    have hpt := gt.at hpu (by simp)
    have tp0 : ∃ y, t.cell? ⟨p, 0, none⟩ = some y := ⟨_, by simp [World.cell?, hpt]; rfl⟩
    obtain ⟨y0, tp0⟩ := tp0
    have tf0 : t.frozen? ⟨p, 0, none⟩ = false := by simp [World.frozen?, hpt]
    have htp := lt_of_block hpt
    obtain ⟨x, hx⟩ : ∃ x, x = t.setCell ⟨p, 0, none⟩ (.slice av L.length cv) := ⟨_, rfl⟩
    rw [← hx] at gY0
    have hxz := gY0.at hz (by simp; omega)
    have hxr := gY0.at hr (by simp; omega)
    have hxl := lt_of_block hxz
    have hxl2 := lt_of_block hxr
    have m0 : x.cell? ⟨w.heap.size + 1, 0, none⟩ = some (.int .i64 a1) := by simp [World.cell?, hxr]
    have z0 : x.cell? ⟨w.heap.size, 0, none⟩ = some (.int .i64 0) := by simp [World.cell?, hxz, AskV.cells]; rfl
    have y0 : x.frozen? ⟨w.heap.size, 0, none⟩ = false := by simp [World.frozen?, hxz]
    have m1 : x.cell? ⟨w.heap.size + 1, 1, none⟩ = some (.int .i64 a2) := by simp [World.cell?, hxr]
    have z1 : x.cell? ⟨w.heap.size, 1, none⟩ = some (.int .i64 0) := by simp [World.cell?, hxz, AskV.cells]; rfl
    have y1 : x.frozen? ⟨w.heap.size, 1, none⟩ = false := by simp [World.frozen?, hxz]
    have m2 : x.cell? ⟨w.heap.size + 1, 2, none⟩ = some (.int .i64 a3) := by simp [World.cell?, hxr]
    have z2 : x.cell? ⟨w.heap.size, 2, none⟩ = some (.int .i64 0) := by simp [World.cell?, hxz, AskV.cells]; rfl
    have y2 : x.frozen? ⟨w.heap.size, 2, none⟩ = false := by simp [World.frozen?, hxz]
    have m3 : x.cell? ⟨w.heap.size + 1, 3, none⟩ = some (.int .i64 a4) := by simp [World.cell?, hxr]
    have z3 : x.cell? ⟨w.heap.size, 3, none⟩ = some (.int .i64 0) := by simp [World.cell?, hxz, AskV.cells]; rfl
    have y3 : x.frozen? ⟨w.heap.size, 3, none⟩ = false := by simp [World.frozen?, hxz]
    have m4 : x.cell? ⟨w.heap.size + 1, 4, none⟩ = some (.int .i64 a5) := by simp [World.cell?, hxr]
    have z4 : x.cell? ⟨w.heap.size, 4, none⟩ = some (.int .i64 0) := by simp [World.cell?, hxz, AskV.cells]; rfl
    have y4 : x.frozen? ⟨w.heap.size, 4, none⟩ = false := by simp [World.frozen?, hxz]
    have m5 : x.cell? ⟨w.heap.size + 1, 5, none⟩ = some (.string a6) := by simp [World.cell?, hxr]
    have z5 : x.cell? ⟨w.heap.size, 5, none⟩ = some (.string ByteArray.empty) := by simp [World.cell?, hxz, AskV.cells]; rfl
    have y5 : x.frozen? ⟨w.heap.size, 5, none⟩ = false := by simp [World.frozen?, hxz]
    have m6 : x.cell? ⟨w.heap.size + 1, 6, none⟩ = some (.int .i64 a7) := by simp [World.cell?, hxr]
    have z6 : x.cell? ⟨w.heap.size, 6, none⟩ = some (.int .i64 0) := by simp [World.cell?, hxz, AskV.cells]; rfl
    have y6 : x.frozen? ⟨w.heap.size, 6, none⟩ = false := by simp [World.frozen?, hxz]
    have m7 : x.cell? ⟨w.heap.size + 1, 7, none⟩ = some (.int .i64 a8) := by simp [World.cell?, hxr]
    have z7 : x.cell? ⟨w.heap.size, 7, none⟩ = some (.int .i64 0) := by simp [World.cell?, hxz, AskV.cells]; rfl
    have y7 : x.frozen? ⟨w.heap.size, 7, none⟩ = false := by simp [World.frozen?, hxz]
    have m8 : x.cell? ⟨w.heap.size + 1, 8, none⟩ = some (.bool a9) := by simp [World.cell?, hxr]
    have z8 : x.cell? ⟨w.heap.size, 8, none⟩ = some (.bool false) := by simp [World.cell?, hxz, AskV.cells]; rfl
    have y8 : x.frozen? ⟨w.heap.size, 8, none⟩ = false := by simp [World.frozen?, hxz]
    have m9 : x.cell? ⟨w.heap.size + 1, 9, none⟩ = some (.int .i64 a10) := by simp [World.cell?, hxr]
    have z9 : x.cell? ⟨w.heap.size, 9, none⟩ = some (.int .i64 0) := by simp [World.cell?, hxz, AskV.cells]; rfl
    have y9 : x.frozen? ⟨w.heap.size, 9, none⟩ = false := by simp [World.frozen?, hxz]
    have m10 : x.cell? ⟨w.heap.size + 1, 10, none⟩ = some (.string a11) := by simp [World.cell?, hxr]
    have z10 : x.cell? ⟨w.heap.size, 10, none⟩ = some (.string ByteArray.empty) := by simp [World.cell?, hxz, AskV.cells]; rfl
    have y10 : x.frozen? ⟨w.heap.size, 10, none⟩ = false := by simp [World.frozen?, hxz]
    have hend : RAt x p g' L ∧ Chg [p] w x ∧ (∀ q, g' = some q → w.heap.size + 2 ≤ q) := by
      have hus : u.heap.size = w.heap.size + 2 := by rw [hu]; simp
      have hgq : ∀ q, g' = some q → w.heap.size + 2 ≤ q := fun q hq => by have := hgt q hq; omega
      have hgp : ∀ q, g' = some q → q ≠ p := fun q hq => by have := hgq q hq; omega
      refine ⟨⟨.slice av L.length cv, ?_, ?_, fun e => hgp p e rfl⟩, (gu.mono (by simp)).trans gY0, hgq⟩
      · rw [hx]
        simpa using heap_setCell_at (i := 0) hpt (.slice av L.length cv)
      · rw [hx]
        exact hs'.chg ((Chg.refl [p] t).setCell ⟨p, 0, none⟩ (by simp) _) fun q hq => by simp only [List.mem_singleton]; exact hgp q hq
    have HEND := Lib.hid hend
    have HZ := Lib.hid hxz
    have HU := Lib.hid hu
    have HX := Lib.hid hx
    have HRUN := Lib.hid hrun
    have HAD := Lib.hid hAD
    simp only [List.length_cons] at hn hm hL c0
    have r2 : (1 : Int) ≤ (cap : Int) := by omega
    have r3 : (1 : Int) ≤ (L.length : Int) + 1 := by omega
    clear h h1 h2 hcl hcl' htl hu gu hz hr hpu hrun hs' gt hgt gY0 hpt hx hxz hxr hend H
    show Calls Try.prog 18 #[.pointer (some ⟨p, 0, none⟩)] w fun e w' => e = .returned (.tuple #[(⟨a1, a2, a3, a4, a5, a6, a7, a8, a9, a10, a11⟩ : AskV).val, .bool true]) ∧ ∃ g', RL w w' p (some gb) g' L
    go_enter Try.func18, Try.ntmps18
    go_upto_region 4 with fail
    generalize hG : World.alloc (World.alloc w _) _ = G
    obtain rfl : G = u := by rw [← hG, HU.out]; rfl
    clear hG HU
    go_upto_region 5 with (refine wpList_run (by rfl) (.const (.slice none 0 0)) (.tmp 23) 40 (by rfl) _ _ _ t (by rfl) (by rfl) (HRUN.out _) ?_)
    rw [← HX.out]
    clear HX
    go_wp2
    generalize hY : World.setCell (World.setCell (World.setCell (World.setCell (World.setCell (World.setCell (World.setCell (World.setCell (World.setCell (World.setCell (World.setCell x _ _) _ _) _ _) _ _) _ _) _ _) _ _) _ _) _ _) _ _) _ _ = Y
    have hYz : Y.heap[w.heap.size]? = some (.cells (⟨a1, a2, a3, a4, a5, a6, a7, a8, a9, a10, a11⟩ : AskV).cells.toArray 32 (0, 0)) := by
      rw [← hY]
      exact fill_ask HZ.out ⟨a1, a2, a3, a4, a5, a6, a7, a8, a9, a10, a11⟩
    have gY : Chg [w.heap.size] x Y := by
      rw [← hY]
      exact chg_ask x w.heap.size ⟨a1, a2, a3, a4, a5, a6, a7, a8, a9, a10, a11⟩
    clear hY
    obtain ⟨e1, e2, e3⟩ := HEND.out
    refine bodyPost_ret (results_cell rfl rfl (load_ask hYz)) rfl ?_
    refine ⟨rfl, g', e1.kept (Kept.of_chg gY e1.lt fun q hq => ?_), e2.new gY (by simp), .inr fun q hq => by have := e3 q hq; omega⟩
    simp only [List.mem_cons, Option.mem_toList] at hq
    simp only [List.mem_singleton]
    rcases hq with rfl | hq
    · omega
    · have := e3 q hq
      omega

end Go.Proofs.Ytjamdffaieocmaa
