/-
  The document's net: what it holds; New, is, Send.
-/
import Derived.Test.YtphoijlpgplnkaaNetRow
import Derived.Deep.CutBlock
namespace Go.Proofs.Ytphoijlpgplnkaa
open Go.RowKit Go.ChangeMaps

/-- append of bytes that are read onto nothing. -/
theorem new_byteR {w : World} {v2 : Value} {bs : List Int} (h2 : Reads w .u8 v2 bs) (hs : bs.length ≤ 1000000) :
    ∃ v' w', (∀ ty, (Builtin.append_ #[29, 29] ty #[.slice none 0 0, v2]).run Try.prog w = .ok v' w') ∧ w'.ownsRow w.heap.size 5 1 v' bs.length (byC bs) ∧ Chg ([] : List Nat) w w' := by
  obtain ⟨i0, hi, hz0, hz1, hz2⟩ := info_parts infoByte
  have H := h2
  obtain ⟨a, cap, rfl, hm, hcn, _⟩ := h2
  cases a with
  | none =>
    have hc0 := hcn.2 rfl
    have hcap := hcn.1
    subst hc0
    have h0 : bs = [] := List.length_eq_zero_iff.1 (by omega)
    subst h0
    exact ⟨.slice none 0 0, w, fun ty => run_append_owned_none (P := Try.prog) (w := w) w.heap.size 29 ty 5 i0 1 Try.underlying29 hi _ 0 [] (World.ownsRow_nil _ _ _ _), World.ownsRow_nil _ _ _ _, Chg.refl _ _⟩
  | some a =>
    obtain ⟨v', w', hr, ho, hg, _⟩ := run_append_own (P := Try.prog) (w := w) w.heap.size 29 0 5 i0 (.int .u8 0) 1 1 Try.underlying29 hi hz0 hz1 hz2 rfl (by decide) (.slice none 0 0) 0 [] (World.ownsRow_nil _ _ _ _) a bs.length cap (byC bs) (by rw [byC_len]; omega) (reads_news H)
      (fun u hu => by
        obtain ⟨x, _, rfl⟩ := List.mem_map.1 hu
        rfl) (by unfold maxLen; omega) (by omega) (Nat.le_refl _)
    exact ⟨v', w', fun _ => hr, by simpa using ho, ⟨hg.os, hg.tape, hg.output, hg.size, fun k hk _ => hg.block k hk (by simp [Value.ownBlock])⟩⟩

/-- What the document's net holds. -/
structure RAt (w : World) (p : Nat) (g : Option Nat) (v : Value) (Ms : List GM) (most next : Int) : Prop where
  c : w.heap[p]? = some (.cells #[v, .int .i64 most, .int .i64 next] 57 (0, 0))
  s : Seg w 31 5 g v (gmC Ms) Ms.length
  f : FrS w Ms
  d : p ∉ g.toList ++ Ms.filterMap GM.fb
  l : (Ms.length : Int) ≤ most
  m1 : 1 ≤ most
  m2 : most ≤ 64
  n1 : 0 ≤ next
  n2 : next ≤ 1000

theorem RAt.kept {w w' : World} {p : Nat} {g : Option Nat} {v : Value} {Ms : List GM} {most next : Int} (h : RAt w p g v Ms most next) (hk : Kept (ownN p g Ms) w w') : RAt w' p g v Ms most next :=
  ⟨(hk p (by simp [ownN])).trans h.c, h.s.kept (hk.mono fun x hx => by simp [ownN] at hx ⊢; simp [hx]), h.f.kept (hk.mono fun x hx => by simp only [ownN, List.mem_cons, List.mem_append]; exact .inr (.inr hx)), h.d, h.l, h.m1, h.m2, h.n1, h.n2⟩

theorem RAt.lt {w : World} {p : Nat} {g : Option Nat} {v : Value} {Ms : List GM} {most next : Int} (h : RAt w p g v Ms most next) : ∀ x ∈ ownN p g Ms, x < w.heap.size := by
  intro x hx
  simp only [ownN, List.mem_cons, List.mem_append, Option.mem_toList] at hx
  rcases hx with rfl | hx | hx
  · exact lt_of_block h.c
  · exact h.s.lt x hx
  · exact h.f.lt x hx

theorem RAt.chg {w w' : World} {p : Nat} {g : Option Nat} {v : Value} {Ms : List GM} {most next : Int} (h : RAt w p g v Ms most next) (hc : Chg ([] : List Nat) w w') : RAt w' p g v Ms most next := h.kept (Kept.of_chg hc h.lt (by simp))

/-- A call's leave: the net's own block is turned, the rest is new. -/
structure RL (w w' : World) (p : Nat) (g : Option Nat) (Ms : List GM) (most next : Int) (L : List GV) : Prop where
  at' : ∃ g' v' Ms', RAt w' p g' v' Ms' most next ∧ Ms'.map GM.g = L ∧ ∀ x ∈ ownN p g' Ms', x ∈ ownN p g Ms ∨ w.heap.size ≤ x
  c : Chg [p] w w'

theorem rnewC (w : World) (most : Int) (h1 : 1 ≤ most) (h2 : most ≤ 64) : Calls Try.prog 18 #[.int .i64 most] w fun e w' => e = .returned (.tuple #[.pointer (some ⟨w.heap.size, 0, none⟩), .int .i64 0]) ∧ RAt w' w.heap.size none (.slice none 0 0) [] most 0 ∧ Chg ([] : List Nat) w w' := by
  go_enter Try.func18, Try.ntmps18
  go_wp2
  go_ret2
  exact ⟨rfl, ⟨heap_alloc_new _ _, Seg.nil _ _ _, fun m hm => by simp at hm, by simp, by simp; omega, h1, h2, by decide, by decide⟩, (Chg.refl _ _).alloc _⟩

theorem rnewBad (w : World) (most : Int) (h1 : most < 1 ∨ 64 < most) : Calls Try.prog 18 #[.int .i64 most] w fun e w' => e = .returned (.tuple #[.pointer none, .int .i64 2]) ∧ w = w' := by
  rcases h1 with h1 | h1
  · go_enter Try.func18, Try.ntmps18
    go_wp2
    go_ret2
    exact ⟨rfl, rfl⟩
  · by_cases h2 : most < 1
    · omega
    go_enter Try.func18, Try.ntmps18
    go_wp2
    go_ret2
    exact ⟨rfl, rfl⟩

theorem risC {w : World} {p : Nat} {g : Option Nat} {v : Value} {Ms : List GM} {most next : Int} (h : RAt w p g v Ms most next) (i : Int) : Calls Try.prog 33 #[.pointer (some ⟨p, 0, none⟩), .int .i64 i] w fun e w' => e = .returned (.bool (isN Ms.length i)) ∧ w = w' := by
  have h1 := h.c
  obtain ⟨a, cap, rfl, hn1, hm⟩ := h.s.len
  have c0 : w.cell? ⟨p, 0, none⟩ = some (.slice a Ms.length cap) := by simp [World.cell?, h1]
  have hp := lt_of_block h1
  unfold maxLen at hm
  clear h1 h
  unfold isN
  by_cases h0 : 0 ≤ i
  · go_enter Try.func33, Try.ntmps33
    go_wp2
    go_ret
    exact ⟨ret_bool (by simp [h0]), rfl⟩
  · go_enter Try.func33, Try.ntmps33
    go_wp2
    go_ret
    exact ⟨ret_bool (by simp [h0]; omega), rfl⟩

theorem seg_lit (w : World) (cs : Array Value) (e sz n : Nat) (hs : cs.size = n * sz) (hn : n ≤ maxLen) : Seg (w.alloc (.cells cs e)) e sz (some w.heap.size) (.slice (some ⟨w.heap.size, 0, none⟩) n n) cs.toList n :=
  ⟨by simpa using hs, .inr ⟨_, 0, n, cs, rfl, rfl, heap_alloc_new _ _, Nat.le_refl _, hn, by omega, fun j hj => by simp⟩⟩

/-- A row of one's own grows: nothing older has turned. -/
theorem own_chg {w0 w w' : World} {B e sz n : Nat} {v : Value} {xs : List Value} {S : List Nat} (h0 : Chg S w0 w) (ho : w.ownsRow B e sz v n xs) (hg : w.grownBy w' v.ownBlock) (hB : w0.heap.size ≤ B) : Chg S w0 w' ∧ ∀ x, x < w.heap.size → x < B → w'.heap[x]? = w.heap[x]? := by
  have hc : Chg v.ownBlock.toList w w' := ⟨hg.os, hg.tape, hg.output, hg.size, fun k hk hn => hg.block k hk (fun e => hn (by rw [← e]; simp))⟩
  have hb : ∀ x ∈ v.ownBlock.toList, B ≤ x := fun x hx => by
    rw [Option.mem_toList] at hx
    exact (ho.lt x hx).1
  exact ⟨h0.new hc fun x hx => Nat.le_trans hB (hb x hx), fun x h1 h2 => hc.block x h1 fun e => by have := hb x e; omega⟩

set_option maxRecDepth 100000 in
set_option maxHeartbeats 2000000 in
theorem rsendC {w : World} {p : Nat} {g : Option Nat} {v0 : Value} {Ms : List GM} {most next : Int} (h : RAt w p g v0 Ms most next) (hnx : next < 1000) (frm tt : Int) (v : Value) (bs : List Int) (hr : ∀ y, Chg [p] w y → Reads y .u8 v bs) (hbs : bs.length ≤ 100000) :
    Calls Try.prog 21 #[.pointer (some ⟨p, 0, none⟩), .int .i64 frm, .int .i64 tt, v] w fun e w' => e = .returned (.tuple #[.int .i64 next, .bool (decide ((Ms.length : Int) < most))]) ∧ RL w w' p g Ms most (next + 1) (sendL most (Ms.map GM.g) ⟨next, frm, tt, bs, false⟩) := by
  have h1 := h.c
  obtain ⟨a, cap, rfl, hn1, hm⟩ := h.s.len
  have hl := h.l
  have hm1 := h.m1
  have hm2 := h.m2
  have hn0 := h.n1
  have hp := lt_of_block h1
  unfold maxLen at hm
  have c0 : w.cell? ⟨p, 0, none⟩ = some (.slice a Ms.length cap) := by simp [World.cell?, h1]
  have c1 : w.cell? ⟨p, 1, none⟩ = some (.int .i64 most) := by simp [World.cell?, h1]
  have c2 : w.cell? ⟨p, 2, none⟩ = some (.int .i64 next) := by simp [World.cell?, h1]
  have f2 : w.frozen? ⟨p, 2, none⟩ = false := by simp [World.frozen?, h1]
  obtain ⟨y, hy⟩ : ∃ y, y = w.setCell ⟨p, 2, none⟩ (.int .i64 (next + 1)) := ⟨_, rfl⟩
  have gy : Chg [p] w y := hy ▸ (Chg.refl _ _).setCell _ (by simp) _
  have hpy : y.heap[p]? = some (.cells #[.slice a Ms.length cap, .int .i64 most, .int .i64 (next + 1)] 57 (0, 0)) := by
    rw [hy]
    simpa using heap_setCell_at (i := 2) h1 (.int .i64 (next + 1))
  have hd := h.d
  have hsy := h.s.chg gy (fun x hx e => hd (by simp only [List.mem_singleton] at e; subst e; simp [hx]))
  have hfy := h.f.kept (Kept.of_chg gy h.f.lt fun x hx e => hd (by simp only [List.mem_singleton] at e; subst e; exact List.mem_append_right _ hx))
  have hry := hr y gy
  have k0 : y.cell? ⟨p, 0, none⟩ = some (.slice a Ms.length cap) := by simp [World.cell?, hpy]
  have k1 : y.cell? ⟨p, 1, none⟩ = some (.int .i64 most) := by simp [World.cell?, hpy]
  have hyp := lt_of_block hpy
  have HY := Lib.hid hy
  have HRY : RAt y p g (.slice a Ms.length cap) Ms most (next + 1) := ⟨hpy, hsy, hfy, hd, hl, hm1, hm2, by omega, by omega⟩
  have hgl : (Ms.map GM.g).length = Ms.length := List.length_map _
  by_cases hlt : (Ms.length : Int) < most
  · obtain ⟨u, hu⟩ : ∃ u, u = y.drew := ⟨_, rfl⟩
    have gu : Chg ([] : List Nat) y u := hu ▸ (Chg.refl _ _).drew
    have HU := Lib.hid hu
    have hsy := hsy.chg gu (by simp)
    have hfy := hfy.chg gu
    have hry := hry.below gu.nil_below
    have hpy := gu.at hpy (by simp)
    have gy := gy.trans (gu.mono (by simp))
    have k0' : u.cell? ⟨p, 0, none⟩ = some (.slice a Ms.length cap) := by simp [World.cell?, hpy]
    have hup := lt_of_block hpy
    clear hu gu
    obtain ⟨v1, t1, hr1, ho1, g1⟩ := new_gram hsy hfy.one (by omega)
    obtain ⟨v2, t2, hr2, ho2, g2⟩ := new_byteR (w := t1) (hry.below g1.nil_below) (by omega)
    obtain ⟨fg, hsf, hfg⟩ := Seg.of_owns ho2
    obtain ⟨fa, fc, rfl, _⟩ := hsf.len
    obtain ⟨t3, ht3⟩ : ∃ t3, t3 = t2.alloc (.cells #[.int .i64 next, .int .i64 frm, .int .i64 tt, .slice fa bs.length fc, .bool false] 31 (0, 0)) := ⟨_, rfl⟩
    have g3 : Chg ([] : List Nat) t2 t3 := ht3 ▸ (Chg.refl _ _).alloc _
    have hl3 : Seg t3 31 5 (some t2.heap.size) (.slice (some ⟨t2.heap.size, 0, none⟩) 1 1) (GM.cells ⟨⟨next, frm, tt, bs, false⟩, .slice fa bs.length fc, fg⟩) 1 := by
      rw [ht3]
      exact seg_lit t2 #[.int .i64 next, .int .i64 frm, .int .i64 tt, .slice fa bs.length fc, .bool false] 31 5 1 rfl (by decide)
    have ho3 : t3.ownsRow u.heap.size 31 5 v1 Ms.length (gmC Ms) := ownsRow_below ho1 (g2.trans g3).nil_below
    have c13 : Chg ([] : List Nat) u t3 := (g1.trans g2).trans g3
    obtain ⟨v4, t4, hr4, ho4, g4⟩ := app_gram ho3 hl3 (cells_gm (w := w) (p := p) (g := none) (v := .slice none 0 0) _ rfl) (by omega) c13.size
    obtain ⟨c14, k34⟩ := own_chg c13 ho3 g4 (Nat.le_refl _)
    obtain ⟨g', hs4, hg4⟩ := Seg.of_owns ho4
    obtain ⟨a4, p4, rfl, _⟩ := hs4.len
    rw [show gmC Ms ++ GM.cells ⟨⟨next, frm, tt, bs, false⟩, .slice fa bs.length fc, fg⟩ = gmC (Ms ++ [⟨⟨next, frm, tt, bs, false⟩, .slice fa bs.length fc, fg⟩]) from (gmC_app _ _).symm] at hs4
    have hp4 := c14.at hpy (by simp)
    have x0 : t4.cell? ⟨p, 0, none⟩ = some (.slice a Ms.length cap) := by simp [World.cell?, hp4]
    have xf : t4.frozen? ⟨p, 0, none⟩ = false := by simp [World.frozen?, hp4]
    have hx4 := lt_of_block hp4
    obtain ⟨z, hz⟩ : ∃ z, z = t4.setCell ⟨p, 0, none⟩ (.slice a4 (Ms.length + 1) p4) := ⟨_, rfl⟩
    have gz : Chg [p] t4 z := hz ▸ (Chg.refl _ _).setCell _ (by simp) _
    have hfgt : ∀ x, fg = some x → u.heap.size ≤ x ∧ x < t2.heap.size := fun x hx => ⟨Nat.le_trans g1.size (hfg x hx), hsf.lt x hx⟩
    have hrl : RL w z p g Ms most (next + 1) (sendL most (Ms.map GM.g) ⟨next, frm, tt, bs, false⟩) := by
      refine ⟨⟨g', .slice a4 (Ms.length + 1) p4, Ms ++ [⟨⟨next, frm, tt, bs, false⟩, .slice fa bs.length fc, fg⟩], ⟨?_, ?_, ?_, ?_, ?_, hm1, hm2, by omega, by omega⟩, ?_, ?_⟩, (gy.trans (c14.mono (by simp))).trans gz⟩
      · rw [hz]
        simpa using heap_setCell_at (i := 0) hp4 (.slice a4 (Ms.length + 1) p4)
      · rw [List.length_append]
        exact hs4.chg gz fun x hx e => by
          simp only [List.mem_singleton] at e
          have := hg4 x hx
          omega
      · intro m hm
        rcases List.mem_append.1 hm with hm | hm
        · exact ((hfy.chg c14).kept (Kept.of_chg gz (hfy.chg c14).lt fun x hx e => hd (by simp only [List.mem_singleton] at e; subst e; exact List.mem_append_right _ hx))) m hm
        · rw [List.mem_singleton.1 hm]
          refine (((hsf.chg g3 (by simp)).kept fun x hx => ?_).chg gz fun x hx e => ?_ : Seg z 5 1 fg (.slice fa bs.length fc) (byC bs) bs.length)
          · rw [Option.mem_toList] at hx
            have h2 := hfgt x hx
            have h3 := hfg x hx
            have hgg : Chg v1.ownBlock.toList t3 t4 := ⟨g4.os, g4.tape, g4.output, g4.size, fun k hk hn => g4.block k hk (fun e => hn (by rw [← e]; simp))⟩
            refine hgg.block x (Nat.lt_of_lt_of_le h2.2 g3.size) fun e => ?_
            rw [Option.mem_toList] at e
            have := (ho1.lt x e).2
            omega
          · simp only [List.mem_singleton] at e
            have := (hfgt x hx).1
            omega
      · intro e
        simp only [List.mem_append, Option.mem_toList, List.filterMap_append, List.mem_filterMap, List.mem_cons, List.not_mem_nil, or_false] at e
        rcases e with e | ⟨m, hm, e⟩ | ⟨m, rfl, e⟩
        · have := hg4 p e
          omega
        · exact hd (List.mem_append_right _ (List.mem_filterMap.2 ⟨m, hm, e⟩))
        · have := (hfgt p e).1
          omega
      · simp only [List.length_append, List.length_singleton]
        omega
      · unfold sendL
        rw [if_pos (by rw [hgl]; exact hlt), List.map_append]
        rfl
      · intro x hx
        simp only [ownN, List.mem_cons, List.mem_append, Option.mem_toList, List.filterMap_append, List.mem_filterMap, List.not_mem_nil, or_false] at hx ⊢
        rcases hx with rfl | hx | ⟨m, hm, hx⟩ | ⟨m, rfl, hx⟩
        · exact .inl (.inl rfl)
        · have := hg4 x hx
          have := gy.size
          exact .inr (by omega)
        · exact .inl (.inr (.inr ⟨m, hm, hx⟩))
        · have := (hfgt x hx).1
          have := gy.size
          exact .inr (by omega)
    have H1 := Lib.hid hr1
    have H2 := Lib.hid hr2
    have H4 := Lib.hid hr4
    have HT3 := Lib.hid ht3
    have HZ := Lib.hid hz
    have HRL := Lib.hid hrl
    have hnn : IntKind.i64.wrap (next + 1) = next + 1 := IntWalk.i64_in _ (by omega)
    have hge : ¬ most ≤ (Ms.length : Int) := by omega
    clear h h1 hr hy gy hpy hd hsy hfy hry HRY hr1 ho1 g1 hr2 ho2 g2 hsf hfg ht3 g3 hl3 ho3 c13 hr4 ho4 g4 c14 k34 hs4 hg4 hp4 hz gz hfgt hrl hgl
    go_enter Try.func21, Try.ntmps21
    go_upto_region 3 with fail
    rw [← HY.out]
    clear HY c0 c1 c2 f2
    go_region
    rw [← HU.out]
    clear k0 k1
    go_wp2_with (first
      | (refine wpList_run (by rfl) (.const (.slice none 0 0)) (.tmp 37) 54 (by rfl) _ _ _ t1 (by rfl) (by rfl) (H1.out _) ?_)
      | (refine wpList_run (by rfl) (.const (.slice none 0 0)) (.tmp 42) 29 (by rfl) _ _ _ t2 (by rfl) (by rfl) (H2.out _) ?_)
      | (rw [← HT3.out]; refine wpList_run (by rfl) (.tmp 38) (.tmp 45) 54 (by rfl) _ _ _ t4 (by rfl) (by rfl) (H4.out _) ?_)
      | fail)
    go_ret2
    exact ⟨by simp [hlt], HZ.out ▸ HRL.out⟩
  · have hge : most ≤ (Ms.length : Int) := by omega
    have hrl : RL w y.drew p g Ms most (next + 1) (sendL most (Ms.map GM.g) ⟨next, frm, tt, bs, false⟩) := by
      refine ⟨⟨g, _, Ms, HRY.chg ((Chg.refl _ _).drew), ?_, fun x hx => .inl hx⟩, gy.drew⟩
      unfold sendL
      rw [if_neg (by rw [hgl]; exact hlt)]
    have HRL := Lib.hid hrl
    have hnn : IntKind.i64.wrap (next + 1) = next + 1 := IntWalk.i64_in _ (by omega)
    clear h h1 hr gy hpy hd hsy hfy hry HRY hrl hy
    go_enter Try.func21, Try.ntmps21
    go_upto_region 3 with fail
    rw [← HY.out]
    clear HY c0 c1 c2 f2
    go_region
    go_wp2_with fail
    go_ret2
    refine ⟨by simp [hlt], HRL.out⟩

end Go.Proofs.Ytphoijlpgplnkaa
