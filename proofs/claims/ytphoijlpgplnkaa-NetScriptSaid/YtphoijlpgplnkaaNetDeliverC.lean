/-
  The net: the contract of Deliver, walked.
-/
import Derived.Test.YtphoijlpgplnkaaNetDeliver
namespace Go.Proofs.Ytphoijlpgplnkaa
open Go.RowKit Go.ChangeMaps

theorem results_cell {fn : Func} {c u : Tmp} {ty : TypeId} {P : Program} {w : World} {g : Nat} {v : Value} {tmps : Array Value} (h : fn.results = #[.cell c ty, .tmp u]) (hc : tmps.getD c undef = .pointer (some ⟨g, 0, none⟩))
    (hload : (loadVar ty ⟨g, 0, none⟩).run P w = .ok v w) : (results fn tmps).run P w = .ok (.tuple #[v, tmps.getD u undef]) w := by
  simp [results, h, asAddr, Result.andThen]
  simp at hc
  rw [hc]
  simp [hload]

def GV.cells (x : GV) (fv : Value) : List Value := [.int .i64 x.id, .int .i64 x.frm, .int .i64 x.to, fv, .bool x.sp]

theorem load_gram {w : World} {g : Nat} {x : GV} {fa : Option Addr} {fn fc : Nat} (h : w.heap[g]? = some (.cells (x.cells (.slice fa fn fc)).toArray 31 (0, 0))) : (loadVar 31 ⟨g, 0, none⟩).run Try.prog w = .ok (x.val (.slice fa fn fc)) w :=
  run_loadVar_row w g 31 31 _ (0, 0) _ h Try.underlying31 rfl (by kernel_rfl)

theorem fill_gram {w : World} {g : Nat} {x0 : GV} {fv0 : Value} (h : w.heap[g]? = some (.cells (x0.cells fv0).toArray 31 (0, 0))) (x : GV) (fv : Value) :
    ((World.setCell (World.setCell (World.setCell (World.setCell (World.setCell w ⟨g, 0, none⟩ (.int .i64 x.id)) ⟨g, 1, none⟩ (.int .i64 x.frm)) ⟨g, 2, none⟩ (.int .i64 x.to)) ⟨g, 3, none⟩ (fv)) ⟨g, 4, none⟩ (.bool x.sp))).heap[g]? = some (.cells (x.cells fv).toArray 31 (0, 0)) := by
  have h0 := h
  simp only [GV.cells] at h0
  have h1 := heap_setCell_at (i := 0) h0 (.int .i64 x.id)
  simp only [List.setIfInBounds_toArray, List.set_cons_zero, List.set_cons_succ] at h1
  have h2 := heap_setCell_at (i := 1) h1 (.int .i64 x.frm)
  simp only [List.setIfInBounds_toArray, List.set_cons_zero, List.set_cons_succ] at h2
  have h3 := heap_setCell_at (i := 2) h2 (.int .i64 x.to)
  simp only [List.setIfInBounds_toArray, List.set_cons_zero, List.set_cons_succ] at h3
  have h4 := heap_setCell_at (i := 3) h3 (fv)
  simp only [List.setIfInBounds_toArray, List.set_cons_zero, List.set_cons_succ] at h4
  have h5 := heap_setCell_at (i := 4) h4 (.bool x.sp)
  simp only [List.setIfInBounds_toArray, List.set_cons_zero, List.set_cons_succ] at h5
  exact h5

theorem chg_gram (w : World) (g : Nat) (x : GV) (fv : Value) : Chg [g] w (World.setCell (World.setCell (World.setCell (World.setCell (World.setCell w ⟨g, 0, none⟩ (.int .i64 x.id)) ⟨g, 1, none⟩ (.int .i64 x.frm)) ⟨g, 2, none⟩ (.int .i64 x.to)) ⟨g, 3, none⟩ (fv)) ⟨g, 4, none⟩ (.bool x.sp)) :=
  (Chg.setCell (Chg.setCell (Chg.setCell (Chg.setCell (Chg.setCell (Chg.refl [g] w) ⟨g, 0, none⟩ (by simp) (.int .i64 x.id)) ⟨g, 1, none⟩ (by simp) (.int .i64 x.frm)) ⟨g, 2, none⟩ (by simp) (.int .i64 x.to)) ⟨g, 3, none⟩ (by simp) (fv)) ⟨g, 4, none⟩ (by simp) (.bool x.sp))

theorem map_erase {α β : Type} (f : α → β) : ∀ (l : List α) (i : Nat), (l.eraseIdx i).map f = (l.map f).eraseIdx i
  | [], _ => rfl
  | _ :: _, 0 => rfl
  | a :: l, i + 1 => by
    show f a :: (l.eraseIdx i).map f = f a :: (l.map f).eraseIdx i
    rw [map_erase f l i]

def gram0 : GV := ⟨0, 0, 0, [], false⟩

theorem NF.here {B : Nat} {F : List Nat} {w w' : World} {p : Nat} {most next : Int} {L : List GV} (h : NF B F w p most next L) (hb : Below w.heap.size w w') : NF B F w' p most next L ∧ Below B w w' ∧ Kept F w w' := by
  refine ⟨h.chg (Chg.of_below hb), hb.mono h.size, ?_⟩
  obtain ⟨g, v, Ms, _, _, _, _, h5⟩ := h
  exact Kept.of_chg (S := []) (Chg.of_below hb) (fun x hx => (h5 x hx).1) (by simp)

theorem deliverNil (w : World) (i : Int) : Calls Try.prog 10 #[.pointer none, .int .i64 i] w fun e w' => e = .returned (.tuple #[gram0.val (.slice none 0 0), .bool false]) ∧ Below w.heap.size w w' := by
  go_enter Try.func10, Try.ntmps10
  go_wp2_with fail
  refine calls_same (isNil _ _) ?_
  go_wp2
  refine bodyPost_ret (results_cell rfl rfl (load_gram (x := gram0) (heap_alloc_new w _))) rfl ?_
  exact ⟨rfl, (Below.refl _ _).alloc (Nat.le_refl _) _⟩

theorem deliverNo {B : Nat} {F : List Nat} {w : World} {p : Nat} {most next : Int} {L : List GV} (h : NF B F w p most next L) (i : Int) (hi : isN L.length i = false) :
    Calls Try.prog 10 #[.pointer (some ⟨p, 0, none⟩), .int .i64 i] w fun e w' => e = .returned (.tuple #[gram0.val (.slice none 0 0), .bool false]) ∧ Below w.heap.size w w' := by
  obtain ⟨g, v, Ms, hn, rfl, _⟩ := h
  have his := fun o => isC (hn.kept (Kept.of_chg ((Chg.refl ([] : List Nat) w).alloc o) hn.lt (by simp))) i
  rw [show isN Ms.length i = false by simpa using hi] at his
  clear hn
  go_enter Try.func10, Try.ntmps10
  go_wp2_with fail
  refine calls_same (his _) ?_
  go_wp2
  refine bodyPost_ret (results_cell rfl rfl (load_gram (x := gram0) (heap_alloc_new w _))) rfl ?_
  exact ⟨rfl, (Below.refl _ _).alloc (Nat.le_refl _) _⟩

set_option maxRecDepth 100000 in
set_option maxHeartbeats 1000000 in
theorem deliverYes {B : Nat} {F : List Nat} {w : World} {p : Nat} {most next : Int} {L : List GV} (h : NF B F w p most next L) (i : Nat) (hi : i < L.length) :
    Calls Try.prog 10 #[.pointer (some ⟨p, 0, none⟩), .int .i64 i] w fun e w' => ∃ fv, e = .returned (.tuple #[(L.getD i default).val fv, .bool true]) ∧ ∃ fb, Seg w' 5 1 fb fv (byC (L.getD i default).fr) (L.getD i default).fr.length ∧
      NF B (fb.toList ++ F) w' p most next (L.eraseIdx i) ∧ Below B w w' ∧ Kept F w w' := by
  obtain ⟨g, v, Ms, hn, rfl, hB, hBs, hF⟩ := h
  have hi' : i < Ms.length := by simpa using hi
  have his := fun o => isC (hn.kept (Kept.of_chg ((Chg.refl ([] : List Nat) w).alloc o) hn.lt (by simp))) i
  rw [show isN Ms.length i = true by unfold isN; simp; omega] at his
  obtain ⟨gb, off, cap, rfl, rfl, hgl, hcl⟩ := hn.s.cell (by decide) i hi'
  have hgd : (Ms.map GM.g).getD i default = (Ms.getD i default).g := by simp [List.getD_eq_getElem?_getD, hi']
  have hmem : Ms.getD i default ∈ Ms := by simp [List.getD_eq_getElem?_getD, hi']
  have hff := hn.f _ hmem
  have hcg : ∀ j u, (Ms.getD i default).cells[j]? = some u → j < 5 → w.cell? ⟨gb, off + i * 5 + j, none⟩ = some u := fun j u hu hj => (hcl j u hj (by rw [gmC_get Ms i j hi' hj, hu])).1
  have hml := hn.l
  have hm2 := hn.m2
  obtain ⟨k, hk⟩ : ∃ k, Ms.length = k + 1 := ⟨Ms.length - 1, by omega⟩
  have hall : ∀ m ∈ Ms, ∃ a n c, m.fv = .slice a n c := fun m hm => by
    obtain ⟨a, c, e, _⟩ := (hn.f m hm).len
    exact ⟨a, _, c, e⟩
  have hdl := fun u hu => delC (w := u) hk (by have := (hn.s.chg (w' := u) (S := []) hu (by simp)); rw [hk] at this; exact this) (i := i) (by omega) (by omega) hall
  have hstep := fun u y v' (hu : Chg ([] : List Nat) w u) hs hc => NAt.del (u := u) (y := y) (v' := v') (hn.kept (Kept.of_chg hu hn.lt (by simp))) hi' hs hc
  rw [hgd]
  generalize hmm : Ms.getD i default = m at *
  obtain ⟨⟨d1, d2, d3, bs, sp⟩, fv, fb⟩ := m
  obtain ⟨fa, fc, hfv, _⟩ := hff.len
  simp only at hfv
  subst hfv
  have w0 := hcg 0 _ rfl (by decide)
  have w1 := hcg 1 _ rfl (by decide)
  have w2 := hcg 2 _ rfl (by decide)
  have w3 := hcg 3 _ rfl (by decide)
  have w4 := hcg 4 _ rfl (by decide)
  simp only [Nat.add_zero] at w0 w1 w2 w3 w4
  have hp := lt_of_block hn.c
  have c2 : w.cell? ⟨p, 2, none⟩ = some (.slice (some ⟨gb, off, none⟩) (k + 1) cap) := by simp [World.cell?, hn.c, hk]
  obtain ⟨u, hu⟩ : ∃ u, u = (w.alloc (.cells #[.int .i64 0, .int .i64 0, .int .i64 0, .slice none 0 0, .bool false] 31 (0, 0))).alloc (.cells #[.int .i64 d1, .int .i64 d2, .int .i64 d3, .slice fa bs.length fc, .bool sp] 31 (0, 0)) := ⟨_, rfl⟩
  have gu : Chg ([] : List Nat) w u := hu ▸ ((Chg.refl _ _).alloc _).alloc _
  have hz : u.heap[w.heap.size]? = some (.cells #[.int .i64 0, .int .i64 0, .int .i64 0, .slice none 0 0, .bool false] 31 (0, 0)) := by
    rw [hu, Below.heap_alloc _ _ _ (by simp)]
    exact heap_alloc_new _ _
  have hr : u.heap[w.heap.size + 1]? = some (.cells #[.int .i64 d1, .int .i64 d2, .int .i64 d3, .slice fa bs.length fc, .bool sp] 31 (0, 0)) := by
    rw [hu]
    have := heap_alloc_new (w.alloc (.cells #[.int .i64 0, .int .i64 0, .int .i64 0, .slice none 0 0, .bool false] 31 (0, 0))) (.cells #[.int .i64 d1, .int .i64 d2, .int .i64 d3, .slice fa bs.length fc, .bool sp] 31 (0, 0))
    simpa using this
  have hpu := gu.at hn.c (by simp)
  rw [hk] at hpu
  have k2 : u.cell? ⟨p, 2, none⟩ = some (.slice (some ⟨gb, off, none⟩) (k + 1) cap) := by simp [World.cell?, hpu]
  have hpl := lt_of_block hpu
  have i1 : (0 : Int) ≤ (i : Int) := by omega
  have i2 : (i : Int) < (k : Int) + 1 := by omega
  have HDL := Lib.hid (hdl u gu)
  have HST := Lib.hid (fun y v' hs hc => hstep u y v' gu hs hc)
  have HU := Lib.hid hu
  have HZ := Lib.hid hz
  have HR := Lib.hid hr
  have HN := Lib.hid hn
  have GU := Lib.hid gu
  have HK := Lib.hid hk
  have hpn : p ≠ w.heap.size ∧ p ≠ w.heap.size + 1 ∧ gb ≠ w.heap.size ∧ gb ≠ w.heap.size + 1 := by omega
  clear hcl hgd hmem hff hcg hall hdl hstep hmm hu hz hr hn gu hpu hi' hi
  go_enter Try.func10, Try.ntmps10
  go_wp2_with fail
  refine calls_same (his _) ?_
  clear his
  go_upto_region 4 with fail
  rw [← HU.out]
  clear HU
  go_wp2_with fail
  refine HDL.out.mono ?_
  rintro e y ⟨v', rfl, s', c'⟩
  obtain ⟨va, vc, rfl, _⟩ := s'.len
  obtain ⟨hn2, gall, sfr, hfb, ⟨q, hq⟩, hfz, hpy⟩ := HST.out y _ (by rw [HK.out]; exact s') c'
  obtain ⟨t, ht⟩ : ∃ t, t = y.setCell ⟨p, 2, none⟩ (.slice va k vc) := ⟨_, rfl⟩
  rw [← ht] at hn2 gall sfr
  have htz := gall.at HZ.out (by simp; omega)
  have htr := gall.at HR.out (by simp; omega)
  have htl := lt_of_block htz
  have htl2 := lt_of_block htr
  have m0 : t.cell? ⟨w.heap.size + 1, 0, none⟩ = some (.int .i64 d1) := by simp [World.cell?, htr]
  have z0 : t.cell? ⟨w.heap.size, 0, none⟩ = some (.int .i64 0) := by simp [World.cell?, htz]
  have y0 : t.frozen? ⟨w.heap.size, 0, none⟩ = false := by simp [World.frozen?, htz]
  have m1 : t.cell? ⟨w.heap.size + 1, 1, none⟩ = some (.int .i64 d2) := by simp [World.cell?, htr]
  have z1 : t.cell? ⟨w.heap.size, 1, none⟩ = some (.int .i64 0) := by simp [World.cell?, htz]
  have y1 : t.frozen? ⟨w.heap.size, 1, none⟩ = false := by simp [World.frozen?, htz]
  have m2 : t.cell? ⟨w.heap.size + 1, 2, none⟩ = some (.int .i64 d3) := by simp [World.cell?, htr]
  have z2 : t.cell? ⟨w.heap.size, 2, none⟩ = some (.int .i64 0) := by simp [World.cell?, htz]
  have y2 : t.frozen? ⟨w.heap.size, 2, none⟩ = false := by simp [World.frozen?, htz]
  have m3 : t.cell? ⟨w.heap.size + 1, 3, none⟩ = some (.slice fa bs.length fc) := by simp [World.cell?, htr]
  have z3 : t.cell? ⟨w.heap.size, 3, none⟩ = some (.slice none 0 0) := by simp [World.cell?, htz]
  have y3 : t.frozen? ⟨w.heap.size, 3, none⟩ = false := by simp [World.frozen?, htz]
  have m4 : t.cell? ⟨w.heap.size + 1, 4, none⟩ = some (.bool sp) := by simp [World.cell?, htr]
  have z4 : t.cell? ⟨w.heap.size, 4, none⟩ = some (.bool false) := by simp [World.cell?, htz]
  have y4 : t.frozen? ⟨w.heap.size, 4, none⟩ = false := by simp [World.frozen?, htz]
  have HT := Lib.hid ht
  have HTZ := Lib.hid htz
  have HN2 := Lib.hid hn2
  have GALL := Lib.hid ((GU.out.mono (by simp)).trans gall)
  have SFR := Lib.hid sfr
  have HFB := Lib.hid hfb
  clear hn2 gall sfr hfb htz htr ht s' c' HDL HST
  go_upto_region 5 with fail
  rw [← HT.out]
  clear HT
  go_wp2_with fail
  generalize hY : World.setCell (World.setCell (World.setCell (World.setCell (World.setCell t _ _) _ _) _ _) _ _) _ _ = Y
  have hYz : Y.heap[w.heap.size]? = some (.cells ((⟨d1, d2, d3, bs, sp⟩ : GV).cells (.slice fa bs.length fc)).toArray 31 (0, 0)) := by
    rw [← hY]
    exact fill_gram (x0 := gram0) (fv0 := .slice none 0 0) HTZ.out ⟨d1, d2, d3, bs, sp⟩ (.slice fa bs.length fc)
  have gY : Chg [w.heap.size] t Y := by
    rw [← hY]
    exact chg_gram t w.heap.size ⟨d1, d2, d3, bs, sp⟩ (.slice fa bs.length fc)
  clear hY
  have hbt := GALL.out
  have hBt : B ≤ t.heap.size := Nat.le_trans hBs hbt.size
  have hfin : Chg [p, gb] w Y := hbt.new gY (by simp)
  have hown : ∀ x ∈ ownN p (some gb) (Ms.eraseIdx i), x ∈ ownN p (some gb) Ms := fun x hx => by
    simp only [ownN, List.mem_cons, List.mem_append] at hx ⊢
    rcases hx with hx | hx | hx
    · exact .inl hx
    · exact .inr (.inl hx)
    · exact .inr (.inr ((List.eraseIdx_sublist Ms i).filterMap _ |>.subset hx))
  have hownlt : ∀ x ∈ ownN p (some gb) Ms, x < w.heap.size := fun x hx => HN.out.lt x hx
  have hpgo : ∀ x ∈ [p, gb], x ∈ ownN p (some gb) Ms := fun x hx => by
    simp only [List.mem_cons, List.not_mem_nil, or_false] at hx
    rcases hx with rfl | rfl <;> simp [ownN]
  refine bodyPost_ret (results_cell rfl rfl (load_gram hYz)) rfl ?_
  refine ⟨_, rfl, fb, SFR.out.chg gY (fun x hx => ?_), ⟨some gb, _, _, HN2.out.kept (Kept.of_chg gY HN2.out.lt fun x hx => ?_), map_erase _ _ _, fun x hx => hB x (hown x hx), Nat.le_trans hBs hfin.size, fun x hx => ?_⟩, hfin.below (fun x hx => hB x (hpgo x hx)) hBs, Kept.of_chg hfin (fun x hx => (hF x hx).1) (fun x hx e => (hF x hx).2 (hpgo x e))⟩
  · have := hownlt x (HFB.out x hx).2
    simp only [List.mem_singleton]
    omega
  · have := hownlt x (hown x hx)
    simp only [List.mem_singleton]
    omega
  · rcases List.mem_append.1 hx with hx | hx
    · have hx' : fb = some x := by simpa using hx
      have := hownlt x (HFB.out x hx').2
      exact ⟨Nat.lt_of_lt_of_le this hfin.size, (HFB.out x hx').1⟩
    · exact ⟨Nat.lt_of_lt_of_le (hF x hx).1 hfin.size, fun e => (hF x hx).2 (hown x e)⟩

end Go.Proofs.Ytphoijlpgplnkaa
