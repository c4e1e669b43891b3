/-
  The document's net: Deliver.
-/
import Derived.Test.YtphoijlpgplnkaaNetRef
import Derived.Test.YtphoijlpgplnkaaNetDeliverC
import Derived.Test.YtphoijlpgplnkaaNetDrop
namespace Go.Proofs.Ytphoijlpgplnkaa
open Go.RowKit Go.ChangeMaps

theorem Seg.takeN {w : World} {e sz n cap : Nat} {g : Option Nat} {a : Option Addr} {cs cs' : List Value} (h : Seg w e sz g (.slice a n cap) cs n) (i : Nat) (hi : i ≤ n) (hc : cs' = cs.take (i * sz)) : Seg w e sz g (.slice a i cap) cs' i := by
  subst hc
  obtain ⟨hl, ⟨rfl, e1, rfl⟩ | ⟨b, off, cap', cur, rfl, e1, hh, h1, h2, h3, h4⟩⟩ := h
  · obtain rfl : i = 0 := by omega
    simp only [Value.slice.injEq, true_and] at e1
    obtain ⟨rfl, rfl⟩ := e1
    have : cs = [] := List.length_eq_zero_iff.1 (by omega)
    subst this
    exact ⟨by simp, .inl ⟨rfl, rfl, rfl⟩⟩
  · simp only [Value.slice.injEq, true_and] at e1
    obtain ⟨rfl, rfl⟩ := e1
    have hs : i * sz ≤ n * sz := Nat.mul_le_mul_right _ hi
    refine ⟨by rw [List.length_take, hl]; omega, .inr ⟨b, off, cap, cur, rfl, rfl, hh, by omega, h2, h3, fun j hj => ?_⟩⟩
    rw [h4 j (by omega), List.getElem?_take_of_lt hj]

theorem Seg.dropN {w : World} {e sz n cap gb off : Nat} {cs cs' : List Value} (h : Seg w e sz (some gb) (.slice (some ⟨gb, off, none⟩) n cap) cs n) (i : Nat) (hi : i ≤ n) (hc : cs' = cs.drop (i * sz)) :
    Seg w e sz (some gb) (.slice (if cap = i then some ⟨gb, off, none⟩ else some ⟨gb, off + i * sz, none⟩) (n - i) (cap - i)) cs' (n - i) := by
  subst hc
  obtain ⟨hl, ⟨h0, _⟩ | ⟨b, off', cap', cur, e1, e2, hh, h1, h2, h3, h4⟩⟩ := h
  · cases h0
  · simp only [Option.some.injEq] at e1
    subst e1
    simp only [Value.slice.injEq, Option.some.injEq, Addr.mk.injEq, and_true, true_and] at e2
    obtain ⟨rfl, rfl⟩ := e2
    have hlen : (cs.drop (i * sz)).length = (n - i) * sz := by rw [List.length_drop, hl, Nat.sub_mul]
    by_cases hci : cap = i
    · rw [if_pos hci]
      have h0 : n - i = 0 := by omega
      refine ⟨hlen, .inr ⟨gb, off, cap - i, cur, rfl, rfl, hh, by omega, by omega, ?_, fun j hj => by rw [h0] at hj; omega⟩⟩
      have : (cap - i) * sz ≤ cap * sz := Nat.mul_le_mul_right _ (by omega)
      omega
    · rw [if_neg hci]
      have hs : i * sz ≤ n * sz := Nat.mul_le_mul_right _ hi
      have hs2 : n * sz ≤ cap * sz := Nat.mul_le_mul_right _ h1
      refine ⟨hlen, .inr ⟨gb, off + i * sz, cap - i, cur, rfl, rfl, hh, by omega, by omega, by rw [Nat.sub_mul]; omega, fun j hj => ?_⟩⟩
      rw [Nat.sub_mul] at hj
      rw [Nat.add_assoc, h4 _ (by omega), List.getElem?_drop]

theorem gmC_takeL (Ms : List GM) (i : Nat) : gmC (Ms.take i) = (gmC Ms).take (i * 5) := by
  induction Ms generalizing i with
  | nil => simp [gmC]
  | cons a l ih =>
    cases i with
    | zero => simp [gmC]
    | succ i =>
      show a.cells ++ gmC (l.take i) = (a.cells ++ gmC l).take ((i + 1) * 5)
      have hl : a.cells.length = 5 := rfl
      rw [ih i, show (i + 1) * 5 = a.cells.length + i * 5 by rw [hl]; omega, List.take_length_add_append]

theorem gmC_dropL (Ms : List GM) (i : Nat) : gmC (Ms.drop i) = (gmC Ms).drop (i * 5) := by
  induction Ms generalizing i with
  | nil => simp [gmC]
  | cons a l ih =>
    cases i with
    | zero => simp [gmC]
    | succ i =>
      show gmC (l.drop i) = (a.cells ++ gmC l).drop ((i + 1) * 5)
      have hl : a.cells.length = 5 := rfl
      rw [ih i, show (i + 1) * 5 = a.cells.length + i * 5 by rw [hl]; omega, List.drop_length_add_append]

theorem rdeliverNo {w : World} {p : Nat} {g : Option Nat} {v : Value} {Ms : List GM} {most next : Int} (h : RAt w p g v Ms most next) (i : Int) (hi : isN Ms.length i = false) :
    Calls Try.prog 24 #[.pointer (some ⟨p, 0, none⟩), .int .i64 i] w fun e w' => e = .returned (.tuple #[gram0.val (.slice none 0 0), .bool false]) ∧ Below w.heap.size w w' := by
  have his := fun o => risC (h.chg ((Chg.refl ([] : List Nat) w).alloc o)) i
  rw [hi] at his
  clear h
  go_enter Try.func24, Try.ntmps24
  go_wp2_with fail
  refine calls_same (his _) ?_
  go_wp2
  refine bodyPost_ret (results_cell rfl rfl (load_gram (x := gram0) (heap_alloc_new w _))) rfl ?_
  exact ⟨rfl, (Below.refl _ _).alloc (Nat.le_refl _) _⟩

set_option maxRecDepth 100000 in
set_option maxHeartbeats 2000000 in
theorem rdeliverYes {w : World} {p : Nat} {g : Option Nat} {v : Value} {Ms : List GM} {most next : Int} (h : RAt w p g v Ms most next) (i : Nat) (hi : i < Ms.length) :
    Calls Try.prog 24 #[.pointer (some ⟨p, 0, none⟩), .int .i64 i] w fun e w' => e = .returned (.tuple #[(Ms.getD i default).g.val (Ms.getD i default).fv, .bool true]) ∧
      Seg w' 5 1 (Ms.getD i default).fb (Ms.getD i default).fv (byC (Ms.getD i default).g.fr) (Ms.getD i default).g.fr.length ∧ RL w w' p g Ms most next ((Ms.map GM.g).eraseIdx i) := by
  have his := fun o => risC (h.chg ((Chg.refl ([] : List Nat) w).alloc o)) i
  rw [show isN Ms.length i = true by unfold isN; simp; omega] at his
  obtain ⟨gb, off, cap, rfl, rfl, hgl, hcl⟩ := h.s.cell (by decide) i hi
  have hmem : Ms.getD i default ∈ Ms := by simp [List.getD_eq_getElem?_getD, hi]
  have hff := h.f _ hmem
  have hcg : ∀ j u, (Ms.getD i default).cells[j]? = some u → j < 5 → w.cell? ⟨gb, off + i * 5 + j, none⟩ = some u := fun j u hu hj => (hcl j u hj (by rw [gmC_get Ms i j hi hj, hu])).1
  have hml := h.l
  have hm1 := h.m1
  have hm2 := h.m2
  have hd := h.d
  obtain ⟨_, _, hsl, hncap, _⟩ := h.s.len
  simp only [Value.slice.injEq] at hsl
  have hcapm : Ms.length ≤ cap := by omega
  generalize hmm : Ms.getD i default = m at *
  obtain ⟨⟨d1, d2, d3, bs, sp⟩, fv, fb⟩ := m
  obtain ⟨fa, fc, hfv, _⟩ := hff.len
  simp only at hfv
  subst hfv
  have w0 := hcg 0 _ rfl (by decide)
  have w1 := hcg 1 _ rfl (by decide)
  have w2 := hcg 2 _ rfl (by decide)
  have w3 := hcg 3 _ rfl (by decide)
  have w4 := hcg 4 _ rfl (by decide)
  simp only [Nat.add_zero] at w0 w1 w2 w3 w4
  have hp := lt_of_block h.c
  have c0 : w.cell? ⟨p, 0, none⟩ = some (.slice (some ⟨gb, off, none⟩) Ms.length cap) := by simp [World.cell?, h.c]
  obtain ⟨u, hu⟩ : ∃ u, u = (w.alloc (.cells #[.int .i64 0, .int .i64 0, .int .i64 0, .slice none 0 0, .bool false] 31 (0, 0))).alloc (.cells #[.int .i64 d1, .int .i64 d2, .int .i64 d3, .slice fa bs.length fc, .bool sp] 31 (0, 0)) := ⟨_, rfl⟩
  have gu : Chg ([] : List Nat) w u := hu ▸ ((Chg.refl _ _).alloc _).alloc _
  have hz : u.heap[w.heap.size]? = some (.cells #[.int .i64 0, .int .i64 0, .int .i64 0, .slice none 0 0, .bool false] 31 (0, 0)) := by
    rw [hu, Below.heap_alloc _ _ _ (by simp)]
    exact heap_alloc_new _ _
  have hr : u.heap[w.heap.size + 1]? = some (.cells #[.int .i64 d1, .int .i64 d2, .int .i64 d3, .slice fa bs.length fc, .bool sp] 31 (0, 0)) := by
    rw [hu]
    have := heap_alloc_new (w.alloc (.cells #[.int .i64 0, .int .i64 0, .int .i64 0, .slice none 0 0, .bool false] 31 (0, 0))) (.cells #[.int .i64 d1, .int .i64 d2, .int .i64 d3, .slice fa bs.length fc, .bool sp] 31 (0, 0))
    simpa using this
  have hus : u.heap.size = w.heap.size + 2 := by rw [hu]; simp
  obtain ⟨ud, hud⟩ : ∃ ud, ud = u.drew := ⟨_, rfl⟩
  have gud : Chg ([] : List Nat) w ud := hud ▸ gu.drew
  have hh : ud.heap = u.heap := by rw [hud]; rfl
  have hz1 := hz
  have hr1 := hr
  rw [← hh] at hz1 hr1
  have huds : ud.heap.size = w.heap.size + 2 := by rw [hud]; exact hus
  have RU := h.chg gud
  have ht1 := RU.s.takeN i (by omega) (gmC_takeL Ms i)
  have ht2 := RU.s.dropN (i + 1) (by omega) (gmC_dropL Ms (i + 1))
  have o1 : ∀ u ∈ gmC (Ms.take i), u.oneCell' = true := fun u hu => RU.f.one u (by rw [gmC_takeL] at hu; exact List.mem_of_mem_take hu)
  have o2 : ∀ u ∈ gmC (Ms.drop (i + 1)), u.oneCell' = true := fun u hu => RU.f.one u (by rw [gmC_dropL] at hu; exact List.mem_of_mem_drop hu)
  obtain ⟨v1, t1, e1, ow1, g1⟩ := new_gram ht1 o1 (by omega)
  obtain ⟨v2, t2, e2, ow2, gg2⟩ := app_gram ow1 (ht2.chg g1 (by simp)) o2 (by omega) g1.size
  obtain ⟨g2, _⟩ := own_chg g1 ow1 gg2 (Nat.le_refl _)
  rw [← gmC_split, show i + (Ms.length - (i + 1)) = Ms.length - 1 by omega] at ow2
  obtain ⟨g', hs', hg'⟩ := Seg.of_owns ow2
  obtain ⟨a', c', rfl, _⟩ := hs'.len
  have hpt1 := (gud.trans g1).at h.c (by simp)
  have y0 : t1.cell? ⟨p, 0, none⟩ = some (.slice (some ⟨gb, off, none⟩) Ms.length cap) := by simp [World.cell?, hpt1]
  have hx1 := lt_of_block hpt1
  have hpt := (gud.trans g2).at h.c (by simp)
  have x0 : t2.cell? ⟨p, 0, none⟩ = some (.slice (some ⟨gb, off, none⟩) Ms.length cap) := by simp [World.cell?, hpt]
  have xf : t2.frozen? ⟨p, 0, none⟩ = false := by simp [World.frozen?, hpt]
  have hx2 := lt_of_block hpt
  obtain ⟨t, ht⟩ : ∃ t, t = t2.setCell ⟨p, 0, none⟩ (.slice a' (Ms.length - 1) c') := ⟨_, rfl⟩
  have gt : Chg [p] t2 t := ht ▸ (Chg.refl _ _).setCell _ (by simp) _
  have gall : Chg [p] ud t := (g2.mono (by simp)).trans gt
  have htz := gall.at hz1 (by simp; omega)
  have htr := gall.at hr1 (by simp; omega)
  have gfin : Chg [p] w t := (gud.mono (by simp)).trans gall
  have hel : (Ms.eraseIdx i).length = Ms.length - 1 := List.length_eraseIdx_of_lt hi
  have hsub : ∀ x ∈ (Ms.eraseIdx i).filterMap GM.fb, x ∈ Ms.filterMap GM.fb := fun x hx => ((List.eraseIdx_sublist Ms i).filterMap _).subset hx
  have hft : FrS t Ms := h.f.kept (Kept.of_chg gfin h.f.lt fun x hx e => hd (by simp only [List.mem_singleton] at e; subst e; exact List.mem_append_right _ hx))
  have hrat : RAt t p g' (.slice a' (Ms.length - 1) c') (Ms.eraseIdx i) most next := by
    refine ⟨?_, ?_, fun m hm => hft m (List.mem_of_mem_eraseIdx hm), fun e => ?_, by rw [hel]; omega, hm1, hm2, h.n1, h.n2⟩
    · rw [ht]
      simpa using heap_setCell_at (i := 0) hpt (.slice a' (Ms.length - 1) c')
    · rw [hel]
      exact hs'.chg gt fun x hx e => by
        simp only [List.mem_singleton] at e
        have := hg' x hx
        omega
    · rcases List.mem_append.1 e with e | e
      · have := hg' p (by simpa using e)
        omega
      · exact hd (List.mem_append_right _ (hsub p e))
  have hown : ∀ x ∈ ownN p g' (Ms.eraseIdx i), x ∈ ownN p (some gb) Ms ∨ w.heap.size + 2 ≤ x := fun x hx => by
    simp only [ownN, List.mem_cons, List.mem_append, Option.mem_toList] at hx ⊢
    rcases hx with hx | hx | hx
    · exact .inl (.inl hx)
    · have := hg' x hx
      exact .inr (by omega)
    · exact .inl (.inr (.inr (hsub x hx)))
  have hsf : Seg t 5 1 fb (.slice fa bs.length fc) (byC bs) bs.length := hft _ hmem
  have hfl : ∀ x, fb = some x → x < w.heap.size := hff.lt
  have hk0 : ud.cell? ⟨p, 0, none⟩ = some (.slice (some ⟨gb, off, none⟩) Ms.length cap) := by simp [World.cell?, RU.c]
  have hk0u : u.cell? ⟨p, 0, none⟩ = some (.slice (some ⟨gb, off, none⟩) Ms.length cap) := by rw [hud] at hk0; exact hk0
  have hpud := lt_of_block RU.c
  have hpu : p < u.heap.size := by omega
  have hpn : p ≠ w.heap.size ∧ p ≠ w.heap.size + 1 := by omega
  have i1 : (0 : Int) ≤ (i : Int) := by omega
  have i2 : (i : Int) < (Ms.length : Int) := by omega
  have r1 : (i : Int) ≤ (cap : Int) := by omega
  have r3 : (i : Int) + 1 ≤ (Ms.length : Int) := by omega
  have r4 : (Ms.length : Int) ≤ (cap : Int) := by omega
  have r5 : (0 : Int) ≤ (i : Int) + 1 := by omega
  have r6 : i ≤ cap := by omega
  have r7 : ((i : Int) + 1).toNat = i + 1 := by omega
  have hwrap : IntKind.i64.wrap ((i : Int) + 1) = (i : Int) + 1 := IntWalk.i64_in _ (by omega)
  have HU := Lib.hid hu
  have HUD := Lib.hid hud
  have E1 := Lib.hid e1
  have E2 := Lib.hid e2
  have HT := Lib.hid ht
  have HTZ := Lib.hid htz
  have HTR := Lib.hid htr
  have HRAT := Lib.hid hrat
  have HOWN := Lib.hid hown
  have GFIN := Lib.hid gfin
  have HSF := Lib.hid hsf
  have HFL := Lib.hid hfl
  have HLT := Lib.hid h.lt
  clear hh h hcl hmem hff hcg hd hmm hu gu hz hr hud gud hz1 hr1 RU ht1 ht2 o1 o2 e1 ow1 g1 e2 ow2 gg2 g2 hs' hg' hpt1 hpt ht gt gall htz htr gfin hsub hft hrat hown hsf hfl hsl hel hncap
  have hud := HUD.out
  clear HUD
  subst hud
  go_enter Try.func24, Try.ntmps24
  go_wp2_with fail
  refine calls_same (his _) ?_
  clear his
  go_upto_region 4 with fail
  rw [← HU.out]
  clear HU
  go_region_law (first
    | (refine step_run (by rfl) (.const (.slice none 0 0)) (.tmp 25) 54 (by rfl) _ _ _ t1 (by rfl) (by rfl) (E1.out _) ?_)
    | (refine step_run (by rfl) (.tmp 26) (.tmp 33) 54 (by rfl) _ _ _ t2 (by rfl) (by rfl) (E2.out _) ?_)
    | fail)
  all_goals
    rw [← HT.out]
    have m0 : t.cell? ⟨w.heap.size + 1, 0, none⟩ = some (.int .i64 d1) := by simp [World.cell?, HTR.out]
    have m1 : t.cell? ⟨w.heap.size + 1, 1, none⟩ = some (.int .i64 d2) := by simp [World.cell?, HTR.out]
    have m2 : t.cell? ⟨w.heap.size + 1, 2, none⟩ = some (.int .i64 d3) := by simp [World.cell?, HTR.out]
    have m3 : t.cell? ⟨w.heap.size + 1, 3, none⟩ = some (.slice fa bs.length fc) := by simp [World.cell?, HTR.out]
    have m4 : t.cell? ⟨w.heap.size + 1, 4, none⟩ = some (.bool sp) := by simp [World.cell?, HTR.out]
    have z0 : t.cell? ⟨w.heap.size, 0, none⟩ = some (.int .i64 0) := by simp [World.cell?, HTZ.out]
    have z1 : t.cell? ⟨w.heap.size, 1, none⟩ = some (.int .i64 0) := by simp [World.cell?, HTZ.out]
    have z2 : t.cell? ⟨w.heap.size, 2, none⟩ = some (.int .i64 0) := by simp [World.cell?, HTZ.out]
    have z3 : t.cell? ⟨w.heap.size, 3, none⟩ = some (.slice none 0 0) := by simp [World.cell?, HTZ.out]
    have z4 : t.cell? ⟨w.heap.size, 4, none⟩ = some (.bool false) := by simp [World.cell?, HTZ.out]
    have e0 : t.frozen? ⟨w.heap.size, 0, none⟩ = false := by simp [World.frozen?, HTZ.out]
    have e1 : t.frozen? ⟨w.heap.size, 1, none⟩ = false := by simp [World.frozen?, HTZ.out]
    have e2 : t.frozen? ⟨w.heap.size, 2, none⟩ = false := by simp [World.frozen?, HTZ.out]
    have e3 : t.frozen? ⟨w.heap.size, 3, none⟩ = false := by simp [World.frozen?, HTZ.out]
    have e4 : t.frozen? ⟨w.heap.size, 4, none⟩ = false := by simp [World.frozen?, HTZ.out]
    have htl := lt_of_block HTZ.out
    have htl2 := lt_of_block HTR.out
    clear E1 E2 HT x0 xf y0 hk0 hk0u
    generalize (if cap = i + 1 then some (⟨gb, off, none⟩ : Addr) else some ⟨gb, off + (i + 1) * 5, none⟩) = AD
    go_wp2
    generalize hY : World.setCell (World.setCell (World.setCell (World.setCell (World.setCell t _ _) _ _) _ _) _ _) _ _ = Y
    have hYz : Y.heap[w.heap.size]? = some (.cells (GV.cells ⟨d1, d2, d3, bs, sp⟩ (.slice fa bs.length fc)).toArray 31 (0, 0)) := by
      rw [← hY]
      exact fill_gram (x0 := gram0) (fv0 := .slice none 0 0) HTZ.out ⟨d1, d2, d3, bs, sp⟩ (.slice fa bs.length fc)
    have gY : Chg [w.heap.size] t Y := by
      rw [← hY]
      exact chg_gram t w.heap.size ⟨d1, d2, d3, bs, sp⟩ (.slice fa bs.length fc)
    clear hY
    refine bodyPost_ret (results_cell rfl rfl (load_gram hYz)) rfl ?_
    refine ⟨rfl, HSF.out.chg gY (fun x hx e => ?_), ⟨g', .slice a' (Ms.length - 1) c', Ms.eraseIdx i, HRAT.out.kept (Kept.of_chg gY HRAT.out.lt fun x hx e => ?_), map_erase _ _ _, fun x hx => ?_⟩, GFIN.out.new gY (by simp)⟩
    · simp only [List.mem_singleton] at e
      have := HFL.out x hx
      omega
    · simp only [List.mem_singleton] at e
      rcases HOWN.out x hx with h1 | h1
      · have := HLT.out x h1
        omega
      · omega
    · rcases HOWN.out x hx with h1 | h1
      · exact .inl h1
      · exact .inr (by omega)

theorem rdeliverC {w : World} {p : Nat} {g : Option Nat} {v : Value} {Ms : List GM} {most next : Int} (h : RAt w p g v Ms most next) (i : Int) :
    Calls Try.prog 24 #[.pointer (some ⟨p, 0, none⟩), .int .i64 i] w fun e w' => ∃ fv, e = .returned (.tuple #[(tookG (Ms.map GM.g) i).val fv, .bool (isN Ms.length i)]) ∧ ∃ fb, Seg w' 5 1 fb fv (byC (tookG (Ms.map GM.g) i).fr) (tookG (Ms.map GM.g) i).fr.length ∧
      RL w w' p g Ms most next (tookL (Ms.map GM.g) i) := by
  have hml : (Ms.map GM.g).length = Ms.length := List.length_map _
  cases hi : isN Ms.length i
  · refine (rdeliverNo h i hi).mono fun e w' ⟨he, hb⟩ => ⟨.slice none 0 0, he.trans ?_, none, ?_, ⟨g, v, Ms, h.chg (Chg.of_below hb), ?_, fun x hx => .inl hx⟩, (Chg.of_below (S := [p]) hb)⟩
    · unfold tookG
      rw [hml, hi]
      rfl
    · unfold tookG
      rw [hml, hi]
      exact Seg.nil _ _ _
    · unfold tookL
      rw [hml, hi]
      rfl
  · obtain ⟨k, rfl, hk⟩ := isN_nat hi
    have hgd : (Ms.map GM.g).getD k default = (Ms.getD k default).g := by simp [List.getD_eq_getElem?_getD, hk]
    unfold tookG tookL
    rw [hml, hi, if_pos rfl, if_pos rfl, Int.toNat_natCast, hgd]
    exact (rdeliverYes h k hk).mono fun e w' ⟨he, hs, hr⟩ => ⟨_, he, _, hs, hr⟩

end Go.Proofs.Ytphoijlpgplnkaa
