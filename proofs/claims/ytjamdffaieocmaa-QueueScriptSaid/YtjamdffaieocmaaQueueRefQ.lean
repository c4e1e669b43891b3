/-
  The document's queue: Push, walked.
-/
import Derived.Test.YtjamdffaieocmaaQueueRefP
namespace Go.Proofs.Ytjamdffaieocmaa
open Go.RowKit Go.ChangeMaps

/-- What the round of Push keeps. -/
structure LS (w wr : World) (p ab : Nat) (v0 : Value) (a : AskV) (gl : Option Nat) (vl : Value) (L : List AskV) : Prop where
  pt : wr.heap[p]? = some (.cells #[v0] 46 (0, 0))
  ar : wr.heap[ab]? = some (.cells a.cells.toArray 32 (0, 0))
  gs : GS w wr gl vl L
  ne : ∀ x, gl = some x → x ≠ p ∧ x ≠ ab

theorem LS.chg {w wr wz : World} {p ab : Nat} {v0 : Value} {a : AskV} {gl : Option Nat} {vl : Value} {L : List AskV} (h : LS w wr p ab v0 a gl vl L) (hc : Chg ([] : List Nat) wr wz) : LS w wz p ab v0 a gl vl L :=
  ⟨hc.at h.pt (by simp), hc.at h.ar (by simp), ⟨h.gs.s.chg hc (by simp), h.gs.f, h.gs.b.trans (hc.nil_below.mono h.gs.b.size)⟩, h.ne⟩

theorem LS.cell {w wr : World} {p ab : Nat} {v0 : Value} {a : AskV} {gl : Option Nat} {vl : Value} {L : List AskV} (h : LS w wr p ab v0 a gl vl L) (i : Nat) (u : Value) (hu : a.cells[i]? = some u) : wr.cell? ⟨ab, i, none⟩ = some u := by
  have := h.ar
  simp only [World.cell?, this]
  rw [List.getElem?_toArray, hu]
  rfl

set_option maxHeartbeats 2000000 in
theorem rpushBad {w : World} {p : Nat} (r : AskV) (hv : okV r = false) :
    Calls Try.prog 17 #[.pointer (some ⟨p, 0, none⟩), r.val] w fun e w' => e = .returned (.bool false) ∧ Below w.heap.size w w' := by
  obtain ⟨a1, a2, a3, a4, a5, a6, a7, a8, a9, a10, a11⟩ := r
  have hv : ¬ (0 ≤ a1 ∧ a1 < 4 ∧ 0 ≤ a3 ∧ a3 < 6) := fun h => by
    rw [(okV_iff _).2 h] at hv
    cases hv
  show Calls Try.prog 17 #[.pointer (some ⟨p, 0, none⟩), .agg #[.int .i64 a1, .int .i64 a2, .int .i64 a3, .int .i64 a4, .int .i64 a5, .string a6, .int .i64 a7, .int .i64 a8, .bool a9, .int .i64 a10, .string a11]] w _
  by_cases h1 : a1 < 0
  · go_enter Try.func17, Try.ntmps17
    go_wp2
    go_ret
    exact ⟨rfl, (Below.refl _ _).alloc (Nat.le_refl _) _⟩
  by_cases h2 : 3 < a1
  · go_enter Try.func17, Try.ntmps17
    go_wp2
    go_ret
    exact ⟨rfl, (Below.refl _ _).alloc (Nat.le_refl _) _⟩
  by_cases h3 : a3 < 0
  · go_enter Try.func17, Try.ntmps17
    go_wp2
    go_ret
    exact ⟨rfl, (Below.refl _ _).alloc (Nat.le_refl _) _⟩
  have h4 : 5 < a3 := by omega
  go_enter Try.func17, Try.ntmps17
  go_wp2
  go_ret
  exact ⟨rfl, (Below.refl _ _).alloc (Nat.le_refl _) _⟩

set_option maxRecDepth 100000 in
set_option maxHeartbeats 1000000 in
theorem rpushOk {w : World} {p : Nat} {g : Option Nat} {L : List AskV} (h : RAt w p g L) (hq : QOk L) (r : AskV) (hv : okV r = true) :
    Calls Try.prog 17 #[.pointer (some ⟨p, 0, none⟩), r.val] w fun e w' => e = .returned (.bool (pushB L r)) ∧ ∃ g', RL w w' p g g' (pushL L r) := by
  have hval := (okV_iff r).1 hv
  have hsm := hq.small
  obtain ⟨v, h1, h2, h3⟩ := id h
  obtain ⟨al, cl, rfl, hn, hm⟩ := h2.len
  have hp := lt_of_block h1
  unfold maxLen at hm
  have H := Lib.hid h
  have HQ := Lib.hid hq
  have HV := Lib.hid hv
  obtain ⟨R, hR⟩ : ∃ R, R = r := ⟨_, rfl⟩
  have HPB : pushB L R = (match atF L R.slot R.shard with | some x => !olderB x R | none => true) := by unfold pushB; rw [hR, hv, Bool.true_and]; rfl
  have HPL : pushL L R = if pushB L R then (match atF L R.slot R.shard with | some _ => putL L R | none => L ++ [R]) else L := rfl
  rw [← hR]
  obtain ⟨a1, a2, a3, a4, a5, a6, a7, a8, a9, a10, a11⟩ := r
  simp only at hval
  obtain ⟨v1, v2, v3, v4⟩ := hval
  have hRv : R.val = .agg #[.int .i64 a1, .int .i64 a2, .int .i64 a3, .int .i64 a4, .int .i64 a5, .string a6, .int .i64 a7, .int .i64 a8, .bool a9, .int .i64 a10, .string a11] := by rw [hR]; rfl
  rw [hRv]
  obtain ⟨u, hu⟩ : ∃ u, u = w.alloc (.cells #[.int .i64 a1, .int .i64 a2, .int .i64 a3, .int .i64 a4, .int .i64 a5, .string a6, .int .i64 a7, .int .i64 a8, .bool a9, .int .i64 a10, .string a11] 32 (0, 0)) := ⟨_, rfl⟩
  have gu : Chg ([] : List Nat) w u := hu ▸ (Chg.refl _ _).alloc _
  have hua : u.heap[w.heap.size]? = some (.cells #[.int .i64 a1, .int .i64 a2, .int .i64 a3, .int .i64 a4, .int .i64 a5, .string a6, .int .i64 a7, .int .i64 a8, .bool a9, .int .i64 a10, .string a11] 32 (0, 0)) := hu ▸ heap_alloc_new _ _
  have hus : u.heap.size = w.heap.size + 1 := by rw [hu]; simp
  have hpu := gu.at h1 (by simp)
  have k0 : u.cell? ⟨p, 0, none⟩ = some (.slice al L.length cl) := by simp [World.cell?, hpu]
  have hpl := lt_of_block hpu
  have hal := lt_of_block hua
  have b0 : u.cell? ⟨w.heap.size, 0, none⟩ = some (.int .i64 a1) := by simp [World.cell?, hua]
  have b2 : u.cell? ⟨w.heap.size, 2, none⟩ = some (.int .i64 a3) := by simp [World.cell?, hua]
  obtain ⟨v', t, gl, hrun, hs', gt, hgt⟩ := seg_clone (h2.chg gu (by simp)) (by omega)
  obtain ⟨vl, vc, rfl, hvn, hvm⟩ := hs'.len
  have hls : LS w t p w.heap.size (.slice al L.length cl) R gl (.slice vl L.length vc) L :=
    ⟨gt.at hpu (by simp), by rw [hR]; exact gt.at hua (by simp), ⟨hs', fun x hx => by have := hgt x hx; omega, (gu.trans gt).nil_below⟩, fun x hx => by have := hgt x hx; omega⟩
  unfold maxLen at hvm
  have HLS := Lib.hid hls
  have HRUN := Lib.hid hrun
  have HU := Lib.hid hu
  have HRR := Lib.hid hR
  have HPB2 := Lib.hid HPB
  have HPL2 := Lib.hid HPL
  clear h h1 h2 hq hv hu gu hua hus hpu hrun hs' gt hgt hls hR hRv HPB HPL
  go_enter Try.func17, Try.ntmps17
  go_upto_region 1 with fail
  rw [← HU.out]
  clear HU
  go_upto_region 4 with (refine wpList_run (by rfl) (.const (.slice none 0 0)) (.tmp 29) 40 (by rfl) _ _ _ t (by rfl) (by rfl) (HRUN.out _) ?_)
  clear b0 b2 k0
  go_wp2_with fail
  go_loopw [6] (fun v6 wr => ∃ i : Nat, v6 = .int .i64 i ∧ i ≤ L.length ∧ (∀ j, j < i → likeP R (L.getD j default) = false) ∧ LS w wr p w.heap.size (.slice al L.length cl) R gl (.slice vl L.length vc) L) (fun v6 _ => L.length - (intOf v6).toNat)
  case atStart => exact ⟨0, rfl, Nat.zero_le _, fun j hj => absurd hj (Nat.not_lt_zero j), HLS.out⟩
  case round =>
    obtain ⟨i, rfl, hi, hno, hls⟩ := hrel
    have HLS2 := Lib.hid hls
    have HNO := Lib.hid hno
    have HR2 := HLS2.out
    rw [HRR.out] at HR2
    have HR3 := Lib.hid HR2
    clear HR2
    have c0 := HR3.out.cell 0 _ rfl
    have c1 := HR3.out.cell 1 _ rfl
    have c2 := HR3.out.cell 2 _ rfl
    have c3 := HR3.out.cell 3 _ rfl
    have hpw := lt_of_block hls.pt
    have haw := lt_of_block hls.ar
    by_cases hlt : i < L.length
    · obtain ⟨gb, off, cp, hgx, he, hgl, hcl⟩ := hls.gs.s.cell (by decide) i hlt
      simp only [Value.slice.injEq, true_and] at he
      obtain ⟨rfl, rfl⟩ := he
      have hw : ∀ j u, (L.getD i default).cells[j]? = some u → j < 11 → wr.cell? ⟨gb, off + i * 11 + j, none⟩ = some u := fun j u hu hj => (hcl j u hj (by rw [askC_get L i j hlt hj, hu])).1
      have hgf : ∀ j, j < 11 → wr.frozen? ⟨gb, off + i * 11 + j, none⟩ = false := fun j hj => by
        obtain ⟨u, hu⟩ : ∃ u, (L.getD i default).cells[j]? = some u := by
          have : j < (L.getD i default).cells.length := hj
          exact ⟨_, List.getElem?_eq_getElem this⟩
        exact (hcl j u hj (by rw [askC_get L i j hlt hj, hu])).2
      have hlk : likeP R (L.getD i default) = (decide ((L.getD i default).slot = R.slot) && decide ((L.getD i default).shard = R.shard)) := rfl
      have hold : olderB (L.getD i default) R = (decide (R.query < (L.getD i default).query) || (decide ((L.getD i default).query = R.query) && decide (R.seq < (L.getD i default).seq))) := rfl
      have hnext : likeP R (L.getD i default) = false → ∀ j, j < i + 1 → likeP R (L.getD j default) = false := fun h0 j hj => by
        by_cases e : j = i
        · rw [e]; exact h0
        · exact hno j (by omega)
      have hfirst := at_first HQ.out R i hlt
      generalize hee : L.getD i default = e at *
      obtain ⟨e1, e2, e3, e4, e5, e6, e7, e8, e9, e10, e11⟩ := e
      have HEE := Lib.hid hee
      have HNEXT := Lib.hid hnext
      have HFIRST := Lib.hid hfirst
      have HLK := Lib.hid hlk
      have HOLD := Lib.hid hold
      have HGX := Lib.hid hgx
      have w0 := hw 0 _ rfl (by decide)
      have f0 := hgf 0 (by decide)
      have w1 := hw 1 _ rfl (by decide)
      have f1 := hgf 1 (by decide)
      have w2 := hw 2 _ rfl (by decide)
      have f2 := hgf 2 (by decide)
      have w3 := hw 3 _ rfl (by decide)
      have f3 := hgf 3 (by decide)
      have w4 := hw 4 _ rfl (by decide)
      have f4 := hgf 4 (by decide)
      have w5 := hw 5 _ rfl (by decide)
      have f5 := hgf 5 (by decide)
      have w6 := hw 6 _ rfl (by decide)
      have f6 := hgf 6 (by decide)
      have w7 := hw 7 _ rfl (by decide)
      have f7 := hgf 7 (by decide)
      have w8 := hw 8 _ rfl (by decide)
      have f8 := hgf 8 (by decide)
      have w9 := hw 9 _ rfl (by decide)
      have f9 := hgf 9 (by decide)
      have w10 := hw 10 _ rfl (by decide)
      have f10 := hgf 10 (by decide)
      simp only [Nat.add_zero] at w0 f0
      have i1 : (0 : Int) ≤ (i : Int) := by omega
      have i2 : (i : Int) < (L.length : Int) := by omega
      clear hcl hw hgf hls hno hgx hee hnext hfirst hlk hold
      obtain ⟨wz, hwz⟩ : ∃ wz, wz = wr.alloc (.cells #[.int .i64 e1, .int .i64 e2, .int .i64 e3, .int .i64 e4, .int .i64 e5, .string e6, .int .i64 e7, .int .i64 e8, .bool e9, .int .i64 e10, .string e11] 32 (0, 0)) := ⟨_, rfl⟩
      have gz : Chg ([] : List Nat) wr wz := hwz ▸ (Chg.refl _ _).alloc _
      have hza : wz.heap[wr.heap.size]? = some (.cells #[.int .i64 e1, .int .i64 e2, .int .i64 e3, .int .i64 e4, .int .i64 e5, .string e6, .int .i64 e7, .int .i64 e8, .bool e9, .int .i64 e10, .string e11] 32 (0, 0)) := hwz ▸ heap_alloc_new _ _
      have HLS3 := Lib.hid (HLS2.out.chg gz)
      have HWZ := Lib.hid hwz
      have y0 : wz.cell? ⟨wr.heap.size, 0, none⟩ = some (.int .i64 e1) := by simp [World.cell?, hza]
      have y1 : wz.cell? ⟨wr.heap.size, 1, none⟩ = some (.int .i64 e2) := by simp [World.cell?, hza]
      have y2 : wz.cell? ⟨wr.heap.size, 2, none⟩ = some (.int .i64 e3) := by simp [World.cell?, hza]
      have y3 : wz.cell? ⟨wr.heap.size, 3, none⟩ = some (.int .i64 e4) := by simp [World.cell?, hza]
      have hzl := lt_of_block hza
      have v0' := (gz.nil_below.cell hgl).trans w0
      have g0' := (gz.nil_below.frozen hgl).trans f0
      have v1' := (gz.nil_below.cell hgl).trans w1
      have g1' := (gz.nil_below.frozen hgl).trans f1
      have v2' := (gz.nil_below.cell hgl).trans w2
      have g2' := (gz.nil_below.frozen hgl).trans f2
      have v3' := (gz.nil_below.cell hgl).trans w3
      have g3' := (gz.nil_below.frozen hgl).trans f3
      have v4' := (gz.nil_below.cell hgl).trans w4
      have g4' := (gz.nil_below.frozen hgl).trans f4
      have v5' := (gz.nil_below.cell hgl).trans w5
      have g5' := (gz.nil_below.frozen hgl).trans f5
      have v6' := (gz.nil_below.cell hgl).trans w6
      have g6' := (gz.nil_below.frozen hgl).trans f6
      have v7' := (gz.nil_below.cell hgl).trans w7
      have g7' := (gz.nil_below.frozen hgl).trans f7
      have v8' := (gz.nil_below.cell hgl).trans w8
      have g8' := (gz.nil_below.frozen hgl).trans f8
      have v9' := (gz.nil_below.cell hgl).trans w9
      have g9' := (gz.nil_below.frozen hgl).trans f9
      have v10' := (gz.nil_below.cell hgl).trans w10
      have g10' := (gz.nil_below.frozen hgl).trans f10
      have c0' := (HLS3.out.cell 0 _ (by rw [HRR.out]; rfl))
      have c1' := (HLS3.out.cell 1 _ (by rw [HRR.out]; rfl))
      have c2' := (HLS3.out.cell 2 _ (by rw [HRR.out]; rfl))
      have c3' := (HLS3.out.cell 3 _ (by rw [HRR.out]; rfl))
      have c4' := (HLS3.out.cell 4 _ (by rw [HRR.out]; rfl))
      have c5' := (HLS3.out.cell 5 _ (by rw [HRR.out]; rfl))
      have c6' := (HLS3.out.cell 6 _ (by rw [HRR.out]; rfl))
      have c7' := (HLS3.out.cell 7 _ (by rw [HRR.out]; rfl))
      have c8' := (HLS3.out.cell 8 _ (by rw [HRR.out]; rfl))
      have c9' := (HLS3.out.cell 9 _ (by rw [HRR.out]; rfl))
      have c10' := (HLS3.out.cell 10 _ (by rw [HRR.out]; rfl))
      have hpz := lt_of_block HLS3.out.pt
      have haz := lt_of_block HLS3.out.ar
      have hgz : gb < wz.heap.size := Nat.lt_of_lt_of_le hgl gz.size
      have hrsl : R.slot = a1 := by rw [HRR.out]
      have hrsh : R.shard = a3 := by rw [HRR.out]
      have hrq : R.query = a2 := by rw [HRR.out]
      have hrs : R.seq = a4 := by rw [HRR.out]
      have hlk := HLK.out
      have hold := HOLD.out
      rw [hrsl, hrsh] at hlk
      rw [hrq, hrs] at hold
      have hpb := HPB2.out
      have hpl2 := HPL2.out
      clear gz hza hwz hrsl hrsh hrq hrs
      have HLK2 := Lib.hid hlk
      have HOLD2 := Lib.hid hold
      have HPB3 := Lib.hid hpb
      have HPL3 := Lib.hid hpl2
      clear hlk hold hpb hpl2 f0 f1 f2 f3 f4 f5 f6 f7 f8 f9 f10 c0 c1 c2 c3
      by_cases hA : e1 = a1
      · by_cases hB : e3 = a3
        · have hlike : likeP R ⟨e1, e2, e3, e4, e5, e6, e7, e8, e9, e10, e11⟩ = true := by rw [HLK2.out]; simp [hA, hB]
          obtain ⟨hat, hput⟩ := HFIRST.out hlike
          have hpb := HPB3.out
          rw [hat] at hpb
          have hpl2 := HPL3.out
          rw [hat] at hpl2
          simp only at hpb hpl2
          cases ho : olderB ⟨e1, e2, e3, e4, e5, e6, e7, e8, e9, e10, e11⟩ R
          · rw [ho] at hpb
            simp only [Bool.not_false] at hpb
            rw [hpb] at hpl2
            simp only [if_true] at hpl2
            rw [hput] at hpl2
            have hno1 : ¬ a2 < e2 := fun h => by
              have := HOLD2.out
              rw [ho] at this
              simp [h] at this
            have hno2 : e2 = a2 → ¬ a4 < e4 := fun h h2 => by
              have := HOLD2.out
              rw [ho] at this
              simp [h, h2] at this
            have HB1 := Lib.hid hpb
            have HB2 := Lib.hid hpl2
            obtain ⟨x, hx⟩ : ∃ x, x = wz.setCells gb (off + i * 11) R.cells := ⟨_, rfl⟩
            have gx : Chg [gb] wz x := hx ▸ chg_setCells _ _ _ _
            have hgl2 : gl = some gb := HGX.out
            have hne := HLS3.out.ne gb hgl2
            have hxp := gx.at HLS3.out.pt (by simp; omega)
            have hxs : Seg x 32 11 gl (.slice (some ⟨gb, off, none⟩) L.length vc) (askC (L.set i R)) L.length := by
              rw [hx, hgl2]
              exact seg_put (hgl2 ▸ HLS3.out.gs.s) rfl hlt R
            obtain ⟨y, hy⟩ : ∃ y, y = x.setCell ⟨p, 0, none⟩ (.slice (some ⟨gb, off, none⟩) L.length vc) := ⟨_, rfl⟩
            have gy : Chg [p] x y := hy ▸ (Chg.refl _ _).setCell _ (by simp) _
            have hrl : RL w y p g gl (L.set i R) := by
              refine ⟨⟨.slice (some ⟨gb, off, none⟩) L.length vc, ?_, ?_, fun e => (HLS3.out.ne p e).1 rfl⟩, ?_, .inr HLS3.out.gs.f⟩
              · rw [hy]
                simpa using heap_setCell_at (i := 0) hxp (.slice (some ⟨gb, off, none⟩) L.length vc)
              · rw [List.length_set]
                exact hxs.chg gy fun q hq => by simpa using (HLS3.out.ne q hq).1
              · have gwx : Chg ([] : List Nat) w x := (Chg.of_below HLS3.out.gs.b).new gx (fun q hq => by
                  simp only [List.mem_singleton] at hq
                  subst hq
                  exact HLS3.out.gs.f _ hgl2)
                exact (gwx.mono (by simp)).trans gy
            have x0 : ∃ q, x.cell? ⟨p, 0, none⟩ = some q := ⟨_, by simp [World.cell?, hxp]; rfl⟩
            obtain ⟨q0, x0⟩ := x0
            have xf : x.frozen? ⟨p, 0, none⟩ = false := by simp [World.frozen?, hxp]
            have hxl := lt_of_block hxp
            have HX := Lib.hid hx
            have HY := Lib.hid hy
            have HRL := Lib.hid hrl
            clear hx gx hxp hxs hy gy hrl hpb hpl2 hput hat hlike ho
            subst hA
            subst hB
            go_upto_region 8 with fail
            rw [← HWZ.out]
            by_cases hqe : e2 = a2
            case' pos => have hno3 := hno2 hqe
            all_goals
              clear hno2
              go_upto_region 12 with fail
              generalize hG : World.setCell (World.setCell (World.setCell (World.setCell (World.setCell (World.setCell (World.setCell (World.setCell (World.setCell (World.setCell (World.setCell wz _ _) _ _) _ _) _ _) _ _) _ _) _ _) _ _) _ _) _ _) _ _ = G
              obtain rfl : G = x := by rw [← hG, HX.out, HRR.out]; exact setCells_ask wz gb (off + i * 11) ⟨e1, a2, e3, a4, a5, a6, a7, a8, a9, a10, a11⟩
              clear hG
              go_wp2_with fail
              go_ret
              rw [HB1.out, HB2.out]
              exact ⟨rfl, gl, HY.out ▸ HRL.out⟩
          · rw [ho] at hpb
            simp only [Bool.not_true] at hpb
            rw [hpb] at hpl2
            simp only [Bool.false_eq_true, if_false] at hpl2
            have hor : a2 < e2 ∨ (e2 = a2 ∧ a4 < e4) := by
              have := HOLD2.out
              rw [ho] at this
              simpa using this.symm
            have hrl : RL w wz p g g L := ⟨H.out.kept (Kept.of_chg (Chg.of_below (S := []) HLS3.out.gs.b) H.out.lt (by simp)), Chg.of_below HLS3.out.gs.b, .inl rfl⟩
            have HRL := Lib.hid hrl
            have HB1 := Lib.hid hpb
            have HB2 := Lib.hid hpl2
            clear hrl hpb hpl2 hput hat hlike ho
            subst hA
            subst hB
            go_upto_region 8 with fail
            rw [← HWZ.out]
            by_cases h2 : a2 < e2
            case' neg =>
              have hq3 := hor.resolve_left h2
              obtain ⟨hq4, hq5⟩ := hq3
            all_goals
              clear hor
              go_wp2_with fail
              go_ret
              rw [HB1.out, HB2.out]
              exact ⟨rfl, g, HRL.out⟩
        · have hlike : likeP R ⟨e1, e2, e3, e4, e5, e6, e7, e8, e9, e10, e11⟩ = false := by rw [HLK2.out]; simp [hB]
          have HN := Lib.hid (HNEXT.out hlike)
          clear hlike
          subst hA
          go_upto_region 8 with fail
          rw [← HWZ.out]
          go_wp2_with fail
          exact ⟨⟨i + 1, by simp, by omega, HN.out, HLS3.out⟩, by simp [intOf]; omega⟩
      · have hlike : likeP R ⟨e1, e2, e3, e4, e5, e6, e7, e8, e9, e10, e11⟩ = false := by rw [HLK2.out]; simp [hA]
        have HN := Lib.hid (HNEXT.out hlike)
        clear hlike
        go_upto_region 8 with fail
        rw [← HWZ.out]
        go_wp2_with fail
        exact ⟨⟨i + 1, by simp, by omega, HN.out, HLS3.out⟩, by simp [intOf]; omega⟩
    · obtain rfl : i = L.length := by omega
      have hat := at_none R hno
      have hpb := HPB2.out
      rw [hat] at hpb
      have hpl2 := HPL2.out
      rw [hat, hpb] at hpl2
      simp only [if_true] at hpl2
      have c4 := HR3.out.cell 4 _ rfl
      have c5 := HR3.out.cell 5 _ rfl
      have c6 := HR3.out.cell 6 _ rfl
      have c7 := HR3.out.cell 7 _ rfl
      have c8 := HR3.out.cell 8 _ rfl
      have c9 := HR3.out.cell 9 _ rfl
      have c10 := HR3.out.cell 10 _ rfl
      obtain ⟨v2, t2, g2, hrun2, hgs2⟩ := hls.gs.grow (by omega) R
      have hl3 := hgs2.s.len
      simp only [List.length_append, List.length_singleton] at hl3
      obtain ⟨va, vc2, rfl, hn3, hm3⟩ := hl3
      have hb2 : Below wr.heap.size wr t2 ∨ True := .inr trivial
      have hpt : t2.heap[p]? = some (.cells #[.slice al L.length cl] 46 (0, 0)) := by
        rw [hgs2.b.block p hp, ← hls.gs.b.block p hp]
        exact hls.pt
      have x0 : t2.cell? ⟨p, 0, none⟩ = some (.slice al L.length cl) := by simp [World.cell?, hpt]
      have xf : t2.frozen? ⟨p, 0, none⟩ = false := by simp [World.frozen?, hpt]
      have hxl := lt_of_block hpt
      obtain ⟨y, hy⟩ : ∃ y, y = t2.setCell ⟨p, 0, none⟩ (.slice va (L.length + 1) vc2) := ⟨_, rfl⟩
      have gy : Chg [p] t2 y := hy ▸ (Chg.refl _ _).setCell _ (by simp) _
      have hrl : RL w y p g g2 (L ++ [R]) := by
        have hgp : ∀ q, g2 = some q → q ≠ p := fun q hq => by have := hgs2.f q hq; omega
        refine ⟨⟨.slice va (L.length + 1) vc2, ?_, hgs2.s.chg gy (fun q hq => by simpa using hgp q hq), fun e => hgp p e rfl⟩, (Chg.of_below hgs2.b).trans gy, .inr hgs2.f⟩
        rw [hy]
        simpa using heap_setCell_at (i := 0) hpt (.slice va (L.length + 1) vc2)
      rw [HRR.out] at hrun2
      have HRUN2 := Lib.hid hrun2
      have HY := Lib.hid hy
      have HRL := Lib.hid hrl
      have HB1 := Lib.hid hpb
      have HB2 := Lib.hid hpl2
      clear hls hno hat hpb hpl2 hrun2 hgs2 hb2 hpt hy gy hrl
      go_wp2_with (refine wpList_run (by rfl) (.tmp 81) (.tmp 83) 40 (by rfl) _ _ _ t2 (by rfl) (by rfl) (HRUN2.out _) ?_)
      go_ret
      rw [HB1.out, HB2.out]
      exact ⟨rfl, g2, HY.out ▸ HRL.out⟩

theorem rpushC {w : World} {p : Nat} {g : Option Nat} {L : List AskV} (h : RAt w p g L) (hq : QOk L) (r : AskV) :
    Calls Try.prog 17 #[.pointer (some ⟨p, 0, none⟩), r.val] w fun e w' => e = .returned (.bool (pushB L r)) ∧ ∃ g', RL w w' p g g' (pushL L r) := by
  by_cases hv : okV r = true
  · exact rpushOk h hq r hv
  · have hv : okV r = false := by simpa using hv
    have hb : pushB L r = false := by unfold pushB; rw [hv, Bool.false_and]
    refine (rpushBad r hv).mono fun e w' ⟨he, hw⟩ => ⟨by rw [he, hb], g, ?_, Chg.of_below hw, .inl rfl⟩
    unfold pushL
    rw [hb]
    exact h.kept (Kept.of_chg (Chg.of_below (S := []) hw) h.lt (by simp))

end Go.Proofs.Ytjamdffaieocmaa
