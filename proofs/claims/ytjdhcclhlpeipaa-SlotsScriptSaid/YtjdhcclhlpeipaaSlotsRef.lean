/-
  The document's slots: contracts.
-/
import Derived.Test.YtjdhcclhlpeipaaSlotsA
import Derived.Test.YtjdhcclhlpeipaaLenR
import Derived.Test.YtjdhcclhlpeipaaInfo
import Derived.OwnWalk
import Derived.Deep.OwnRows
import Derived.Deep.RegionHeld3
namespace Go.Proofs.Ytjdhcclhlpeipaa
open Go.RowKit Go.ChangeMaps Utf

def intsA (who : List Int) : Array Value := (who.map (Value.int .i64)).toArray

theorem intsA_set (who : List Int) (i : Nat) (x : Int) : (intsA who).setIfInBounds i (.int .i64 x) = intsA (who.set i x) := by
  unfold intsA
  rw [List.map_set, List.setIfInBounds_toArray]

theorem intsA_at (who : List Int) (i : Nat) (h : i < who.length) : (intsA who)[i]? = some (.int .i64 (who.getD i 0)) := by
  unfold intsA
  simp [List.getD_eq_getElem?_getD, h]

theorem owns_block {w : World} {B e n g : Nat} {xs : List Value} (h : w.ownsRow B e 1 (.slice (some ⟨g, 0, none⟩) n n) n xs) : w.heap[g]? = some (.cells xs.toArray e (0, 0)) := by
  obtain ⟨_, h⟩ := h
  rcases h with ⟨h, _⟩ | ⟨g', cap, cur, e1, _, hh, _, _, hs, ht⟩
  · cases h
  · simp only [Value.slice.injEq, Option.some.injEq, Addr.mk.injEq, and_true, true_and] at e1
    obtain ⟨rfl, rfl⟩ := e1
    rw [hh]
    have : cur = xs.toArray := by
      apply Array.ext'
      rw [← ht, List.take_of_length_le (by simp; omega)]
    rw [this]

/-- What the document's Slots behind the pointer hold. -/
def RefAt (w : World) (p r : Nat) (who : List Int) (last : Int) : Prop :=
  w.heap[p]? = some (.cells #[.slice (some ⟨r, 0, none⟩) who.length who.length, .int .i64 last] 50 (0, 0)) ∧ w.heap[r]? = some (.cells (intsA who) 3 (0, 0)) ∧
    p ≠ r ∧ SlotsOk who last ∧ who.length ≤ 4 ∧ last < 1000000000

theorem RefAt.chg {w w' : World} {p r : Nat} {who : List Int} {last : Int} {S : List Nat} (h : RefAt w p r who last) (g : Chg S w w') (hp : p ∉ S) (hr : r ∉ S) : RefAt w' p r who last :=
  ⟨g.at h.1 hp, g.at h.2.1 hr, h.2.2⟩

theorem RefAt.cells {w : World} {p r : Nat} {who : List Int} {last : Int} (h : RefAt w p r who last) :
    p < w.heap.size ∧ r < w.heap.size ∧ w.cell? ⟨p, 0, none⟩ = some (.slice (some ⟨r, 0, none⟩) who.length who.length) ∧ w.cell? ⟨p, 1, none⟩ = some (.int .i64 last) ∧ w.frozen? ⟨p, 1, none⟩ = false ∧
      ∀ j : Nat, j < who.length → w.cell? ⟨r, j, none⟩ = some (.int .i64 (who.getD j 0)) ∧ w.frozen? ⟨r, j, none⟩ = false := by
  obtain ⟨h1, h2, _⟩ := h
  refine ⟨lt_of_block h1, lt_of_block h2, ?_, ?_, ?_, fun j hj => ⟨?_, ?_⟩⟩
  · simp [World.cell?, h1]
  · simp [World.cell?, h1]
  · simp [World.frozen?, h1]
  · simp only [World.cell?, h2]
    exact intsA_at who j hj
  · simp [World.frozen?, h2]

theorem refNewBad (m : Int) (w : World) (hm : m < 1 ∨ 4 < m) :
    Calls Try.prog 15 #[.int .i64 m] w fun e w' => e = .returned (.tuple #[.pointer none, .int .i64 2]) ∧ w = w' := by
  by_cases h1 : m < 1
  · have d1 : decide (m < 1) = true := by simp [h1]
    go_enter Try.func15, Try.ntmps15
    go_wp2
    go_ret2
    exact ⟨rfl, rfl⟩
  · have h2 : 4 < m := by omega
    go_enter Try.func15, Try.ntmps15
    go_wp2
    go_ret2
    exact ⟨rfl, rfl⟩

theorem made_zero (n : Nat) : madeCells #[Value.int .i64 0] n = intsA (List.replicate n 0) := by
  unfold madeCells intsA
  apply Array.ext
  · simp
  · intro i h1 h2
    simp [Nat.mod_one]

theorem refNewC (m : Int) (w : World) (h1 : 1 ≤ m) (h2 : m ≤ 4) :
    Calls Try.prog 15 #[.int .i64 m] w fun e w' => e = .returned (.tuple #[.pointer (some ⟨w.heap.size + 1, 0, none⟩), .int .i64 0]) ∧
      RefAt w' (w.heap.size + 1) w.heap.size (List.replicate m.toNat 0) 0 ∧ Below w.heap.size w w' := by
  obtain ⟨n, rfl⟩ : ∃ n : Nat, m = n := ⟨m.toNat, by omega⟩
  have hmk := fun w => Go.run_make_row' (P := Try.prog) 41 3 (.int .i64 0) 8 Try.underlying41 infoInt rfl .i64 .i64 n (by omega) (by omega) w
  rw [made_zero] at hmk
  generalize hA : intsA (List.replicate n 0) = A at hmk
  have HA := Lib.hid hA
  clear hA
  go_enter Try.func15, Try.ntmps15
  go_wp2
  go_ret2
  refine ⟨rfl, ⟨?_, ?_, by omega, ok_start _, by simp; omega, by decide⟩, ((Below.refl _ _).alloc (Nat.le_refl _) _).alloc (by simp) _⟩
  · have := heap_alloc_new (w.alloc (.cells A 3)) (.cells #[.slice (some ⟨w.heap.size, 0, none⟩) n n, .int .i64 0] 50)
    simpa using this
  · have h0 := heap_alloc_new w (.cells A 3)
    have := ((Below.refl (w.alloc (.cells A 3)).heap.size _).alloc (Nat.le_refl _) (.cells #[.slice (some ⟨w.heap.size, 0, none⟩) n n, .int .i64 0] 50)).block w.heap.size (by simp)
    rw [this, h0]
    simp only [Int.toNat_natCast, HA.out]

set_option maxHeartbeats 1000000 in
theorem refMayP (s : ByteArray) (k n : Int) (w : World) (hs : s.size ≤ 1000000) :
    Calls Try.prog 25 #[.agg #[.string s, .int .i64 k, .int .i64 n]] w fun e w' => e = .returned (.bool (mayV s k n)) ∧ Below w.heap.size w w' := by
  unfold mayV
  generalize hv : askedV s.data.toList = v
  have hask : ∀ w, Calls Try.prog 27 #[.string s] w fun e w' => e = .returned (.bool v) ∧ Below w.heap.size w w' := fun w => hv ▸ askedR s w (by omega) (by omega)
  clear hv
  cases v <;> by_cases h1 : 0 ≤ k <;> by_cases h2 : k ≤ 4 <;> by_cases h3 : 1 ≤ n <;> by_cases h4 : n ≤ 10
  all_goals
    go_enter Try.func25, Try.ntmps25
    go_wp2_with (go_at_call 27; refine calls_ext (hask _) ?_; intro u)
    all_goals (try omega)
    all_goals go_ret
    all_goals exact ⟨ret_bool (by simp [*] <;> omega), below_ext ((Below.refl _ _).alloc (Nat.le_refl _) _) (by simp) _⟩

set_option maxHeartbeats 1000000 in
theorem refOfC {w : World} {p r : Nat} {who : List Int} {last : Int} (h : RefAt w p r who last) (id : Int) :
    Calls Try.prog 20 #[.pointer (some ⟨p, 0, none⟩), .int .i64 id] w fun e w' => e = .returned (.tuple #[.int .i64 ((ofF who id).getD 0), .bool (ofF who id).isSome]) ∧ w = w' := by
  obtain ⟨hp, hr, c0, c1, f1, cw⟩ := h.cells
  have ok := h.2.2.2.1
  have l4 := h.2.2.2.2.1
  have OK := Lib.hid ok
  have CW := Lib.hid cw
  clear h ok cw
  by_cases h0 : 0 < id
  · go_enter Try.func20, Try.ntmps20
    go_wp2
    go_loop [6] (fun v => ∃ j : Nat, j ≤ who.length ∧ v = .int .i64 j ∧ ∀ i, i < j → who.getD i 0 ≠ id) (fun v => who.length - (intOf v).toNat)
    case atStart => exact ⟨0, Nat.zero_le _, rfl, fun i hi => absurd hi (Nat.not_lt_zero i)⟩
    case round =>
      obtain ⟨j, hj, rfl, ha⟩ := hrel
      have HA := Lib.hid ha
      clear ha
      by_cases hlt : j < who.length
      · have hc := (CW.out j hlt).1
        have q1 : (0 : Int) ≤ (j : Int) := by omega
        have q2 : (j : Int) < (who.length : Int) := by omega
        have HY : who.getD j 0 = id → ofF who id = some (j : Int) := fun e => (ofF_iff OK.out id j).2 ⟨h0, j, rfl, e⟩
        have HN : who.getD j 0 ≠ id → ∀ i, i < j + 1 → who.getD i 0 ≠ id := fun e i hi => by
          by_cases e2 : i = j
          · rw [e2]; exact e
          · exact HA.out i (by omega)
        have HY := Lib.hid HY
        have HN := Lib.hid HN
        generalize who.getD j 0 = x at *
        by_cases e : x = id
        · have hres := HY.out e
          have d : (x == id) = true := by simp [e]
          have HRES := Lib.hid hres
          clear e hres
          go_wp2
          go_ret2
          rw [HRES.out]
          exact ⟨rfl, rfl⟩
        · have d : (x == id) = false := by simp [e]
          have HE := Lib.hid (HN.out e)
          clear e
          go_wp2
          go_roundw
          case rel => exact ⟨j + 1, by omega, by simp, HE.out⟩
          case measure => simp [intOf]; omega
      · have hres : ofF who id = none := (ofF_none OK.out id).2 (fun _ k hk => by
          rcases Nat.lt_or_ge k j with h1 | h1
          · exact HA.out k h1 hk
          · have := getD_lt (who := who) (i := k) (by rw [hk]; exact h0)
            omega)
        have HRES := Lib.hid hres
        clear hres
        go_wp2
        go_ret2
        rw [HRES.out]
        exact ⟨rfl, rfl⟩
  · have hres : ofF who id = none := by simp [ofF, h0]
    rw [hres]
    clear hres
    by_cases hl : 0 < who.length
    all_goals
      go_enter Try.func20, Try.ntmps20
      go_wp2
      go_loop [6] (fun v => v = .int .i64 0) (fun v => 0)
      case atStart => rfl
      case round =>
        obtain rfl := hrel
        go_wp2
        go_ret2
        exact ⟨rfl, rfl⟩

set_option maxHeartbeats 1000000 in
theorem refCountC {w : World} {p r : Nat} {who : List Int} {last : Int} (h : RefAt w p r who last) :
    Calls Try.prog 23 #[.pointer (some ⟨p, 0, none⟩)] w fun e w' => e = .returned (.int .i64 (cntF who)) ∧ w = w' := by
  obtain ⟨hp, hr, c0, c1, f1, cw⟩ := h.cells
  have l4 := h.2.2.2.2.1
  have CW := Lib.hid cw
  clear h cw
  go_enter Try.func23, Try.ntmps23
  go_wp2
  go_loop [3, 4] (fun v3 v4 => ∃ j : Nat, j ≤ who.length ∧ v4 = .int .i64 j ∧ v3 = .int .i64 (upto who j)) (fun _ v4 => who.length - (intOf v4).toNat)
  case atStart => exact ⟨0, Nat.zero_le _, rfl, rfl⟩
  case round =>
    obtain ⟨j, hj, rfl, rfl⟩ := hrel
    have hup := upto_le who j
    by_cases hj4 : j < who.length
    · have hc := (CW.out j hj4).1
      have hus := upto_succ who j
      have r1 : (0 : Int) ≤ (j : Int) := by omega
      have r2 : (j : Int) < (who.length : Int) := by omega
      by_cases hpos : 0 < who.getD j 0
      all_goals
        have HUS := Lib.hid hus
        have HPOS := Lib.hid hpos
        generalize who.getD j 0 = z at *
        clear hus
        go_wp2
        go_roundw
        case rel => exact ⟨j + 1, by omega, by simp, by rw [HUS.out]; simp [HPOS.out]⟩
        case measure => simp [intOf]; omega
    · obtain rfl : j = who.length := by omega
      have hfour : upto who who.length = cntF who := by
        have h4 := upto_four who l4
        rw [← h4]
        have e : ∀ n, n + who.length ≤ 4 → upto who (who.length + n) = upto who who.length := fun n => by
          induction n with
          | zero => intro _; rfl
          | succ n ih =>
            intro hn
            rw [← Nat.add_assoc, upto_succ, ih (by omega)]
            have : who.getD (who.length + n) 0 = 0 := by simp [List.getD_eq_getElem?_getD]
            rw [this]
            simp
        have := e (4 - who.length) (by omega)
        rw [← this]
        congr 1
        omega
      rw [hfour]
      clear hfour hup
      go_wp2
      go_ret
      exact ⟨rfl, rfl⟩

set_option maxHeartbeats 1000000 in
theorem refFreeC {w : World} {p r : Nat} {who : List Int} {last : Int} (h : RefAt w p r who last) (id : Int) :
    Calls Try.prog 17 #[.pointer (some ⟨p, 0, none⟩), .int .i64 id] w fun e w' => e = .returned (.bool (ofF who id).isSome) ∧
      RefAt w' p r (freed who id) last ∧ Chg [p, r] w w' := by
  obtain ⟨hp, hr, c0, c1, f1, cw⟩ := h.cells
  have hof := refOfC h id
  unfold freed
  cases ho : ofF who id with
  | none =>
    rw [ho] at hof
    simp only [Option.getD_none, Option.isSome_none] at hof
    clear ho cw
    go_enter Try.func17, Try.ntmps17
    go_wp2_with (go_at_call 20; refine calls_same hof ?_)
    go_ret
    exact ⟨rfl, h, Chg.refl _ _⟩
  | some i =>
    rw [ho] at hof
    simp only [Option.getD_some, Option.isSome_some] at hof
    obtain ⟨i0, i1, id0, _, id9⟩ := of_lt h.2.2.2.1 ho
    have hok := h.2.2.2.1.free i.toNat i1
    obtain ⟨n, rfl⟩ : ∃ n : Nat, i = n := ⟨i.toNat, by omega⟩
    simp only [Int.toNat_natCast] at i1 hok ⊢
    obtain ⟨d0, d1⟩ := cw n i1
    have q1 : (0 : Int) ≤ (n : Int) := by omega
    have q2 : (n : Int) < (who.length : Int) := by omega
    have H := Lib.hid h
    generalize who.getD n 0 = x at *
    clear cw h ho
    go_enter Try.func17, Try.ntmps17
    go_wp2_with (go_at_call 20; refine calls_same hof ?_)
    go_ret
    have g : Chg [r] w (w.setCell ⟨r, n, none⟩ (.int .i64 0)) := (Chg.refl _ _).setCell _ (by simp) _
    obtain ⟨h1, h2, h3, _, h5, h6⟩ := H.out
    exact ⟨rfl, ⟨by rw [g.at h1 (by simp; omega)]; simp, by rw [heap_setCell_at h2, intsA_set], h3, hok, by simpa using h5, h6⟩, g.mono (by simp)⟩

set_option maxHeartbeats 1000000 in
theorem refSubmitNo {w : World} {p r : Nat} {who : List Int} {last : Int} (_h : RefAt w p r who last) (s : ByteArray) (k n : Int) (hs : s.size ≤ 1000000) (hm : mayV s k n = false) :
    Calls Try.prog 18 #[.pointer (some ⟨p, 0, none⟩), .agg #[.string s, .int .i64 k, .int .i64 n]] w fun e w' => e = .returned (.tuple #[.int .i64 1, .int .i64 0, .int .i64 0]) ∧ Below w.heap.size w w' := by
  have hmay := fun w => refMayP s k n w hs
  rw [hm] at hmay
  clear hm
  go_enter Try.func18, Try.ntmps18
  go_wp2_with (go_at_call 25; refine calls_ext (hmay _) ?_; intro u)
  go_ret3
  exact ⟨rfl, below_ext ((Below.refl _ _).alloc (Nat.le_refl _) _) (by simp) _⟩

set_option maxHeartbeats 2000000 in
theorem refSubmitYes {w : World} {p r : Nat} {who : List Int} {last : Int} (h : RefAt w p r who last) (s : ByteArray) (k n : Int) (hs : s.size ≤ 1000000) (hm : mayV s k n = true) (hlb : last < 999999999) :
    Calls Try.prog 18 #[.pointer (some ⟨p, 0, none⟩), .agg #[.string s, .int .i64 k, .int .i64 n]] w fun e w' =>
      e = .returned (.tuple #[.int .i64 (subR true who last).1, .int .i64 (subR true who last).2.1, .int .i64 (subR true who last).2.2]) ∧ RefAt w' p r (subW true who last) (subL true who last) ∧ Chg [p, r] w w' := by
  have hmay := fun w => refMayP s k n w hs
  rw [hm] at hmay
  clear hm
  have H := Lib.hid h
  have ok := h.2.2.2.1
  have l4 := h.2.2.2.2.1
  have hlast := last_ge ok
  have hfle := freeS_le who
  have hcn := cnt_full ok
  have OK := Lib.hid ok
  have HCN := Lib.hid hcn
  have h12 := h.2.2.1
  have h21 : r ≠ p := Ne.symm h12
  obtain ⟨hp, hr, _⟩ := h.cells
  clear h ok hcn
  go_enter Try.func18, Try.ntmps18
  go_wp2_with fail
  refine calls_let (hmay _) ?_
  intro u hu
  have hu' : Below w.heap.size w u := ((Below.refl _ _).alloc (Nat.le_refl _) _).trans (hu.mono (by simp))
  have hsl : RefAt u p r who last := H.out.chg (Chg.of_below (S := []) hu') (by simp) (by simp)
  obtain ⟨hup, hur, d0, d1, g1, cw⟩ := hsl.cells
  have CW := Lib.hid cw
  have HS := Lib.hid hsl
  have HU := Lib.hid hu'
  clear hsl hu hu' cw H
  go_wp2
  go_loop [7] (fun v => ∃ j : Nat, j ≤ freeS who ∧ v = .int .i64 j) (fun v => freeS who - (intOf v).toNat)
  case atStart => exact ⟨0, Nat.zero_le _, rfl⟩
  case round =>
    obtain ⟨j, hj, rfl⟩ := hrel
    by_cases hjl : j < who.length
    · obtain ⟨hc, hf⟩ := CW.out j hjl
      have q1 : (0 : Int) ≤ (j : Int) := by omega
      have q2 : (j : Int) < (who.length : Int) := by omega
      by_cases hjf : j < freeS who
      · have hb := freeS_before hjf
        have e : (who.getD j 0 == 0) = false := by simpa using hb
        generalize who.getD j 0 = x at *
        clear hb
        go_wp2
        go_roundw
        case rel => exact ⟨j + 1, by omega, by simp⟩
        case measure => simp [intOf]; omega
      · obtain rfl : j = freeS who := by omega
        rw [freeS_lt hjl] at hc
        have hcnt : cntF who ≠ who.length := fun e => by have := HCN.out.1 e; omega
        have hz := show subR true who last = (3, last + 1, (freeS who : Int)) by simp [subR, hcnt]
        have hz2 := show subW true who last = who.set (freeS who) (last + 1) by simp [subW, hcnt]
        have hz3 := show subL true who last = last + 1 by simp [subL, hcnt]
        have HZ1 := Lib.hid hz
        have HZ2 := Lib.hid hz2
        have HZ3 := Lib.hid hz3
        clear hz hz2 hz3 hcnt
        go_upto_region 8 with fail
        obtain ⟨z, hz⟩ : ∃ z, z = u.setCell ⟨p, 1, none⟩ (.int .i64 (last + 1)) := ⟨_, rfl⟩
        rw [← hz]
        have zp : z.heap[p]? = some (.cells #[.slice (some ⟨r, 0, none⟩) who.length who.length, .int .i64 (last + 1)] 50 (0, 0)) := by
          rw [hz, heap_setCell_at HS.out.1]
          rfl
        have zc : Chg [p] u z := hz ▸ (Chg.refl _ _).setCell _ (by simp) _
        have zr := zc.at HS.out.2.1 (by simp; omega)
        have g : Chg [r] z (z.setCell ⟨r, freeS who, none⟩ (.int .i64 (last + 1))) := (Chg.refl [r] z).setCell _ (by simp) _
        have hend : RefAt (z.setCell ⟨r, freeS who, none⟩ (.int .i64 (last + 1))) p r (who.set (freeS who) (last + 1)) (last + 1) :=
          ⟨by rw [g.at zp (by simp; omega)]; simp, by rw [heap_setCell_at zr, intsA_set], h12, OK.out.sub hjl, by simpa using l4, by omega⟩
        have e4 := hend.cells.2.2.2.1
        have hl4 := hend.cells.1
        have hl5 := hend.cells.2.1
        have e0 : z.cell? ⟨p, 0, none⟩ = some (.slice (some ⟨r, 0, none⟩) who.length who.length) := by simp [World.cell?, zp]
        have e1 : z.cell? ⟨p, 1, none⟩ = some (.int .i64 (last + 1)) := by simp [World.cell?, zp]
        have e2 : z.cell? ⟨r, freeS who, none⟩ = some (.int .i64 0) := (World.cell?_of_block (zr.trans HS.out.2.1.symm)).trans hc
        have e3 : z.frozen? ⟨r, freeS who, none⟩ = false := by simp [World.frozen?, zr]
        have hlz : r < z.heap.size ∧ p < z.heap.size := ⟨lt_of_block zr, lt_of_block zp⟩
        obtain ⟨hlz1, hlz2⟩ := hlz
        have HE := Lib.hid hend
        have HC := Lib.hid (((Chg.of_below HU.out : Chg [] w u).mono (S' := [p, r]) (by simp)).trans ((zc.mono (by simp)).trans (g.mono (by simp))))
        clear hz zp zc zr hend hc hf g
        go_region_held3 (fun w' => w'.cell? ⟨p, 0, none⟩ = some (.slice (some ⟨r, 0, none⟩) who.length who.length) ∧ w'.cell? ⟨p, 1, none⟩ = some (.int .i64 (last + 1))) (go_keep) (fail)
        go_wp2_with fail
        go_quiet (fail)
        go_wp2
        go_ret3
        rw [HZ1.out, HZ2.out, HZ3.out]
        have hf := (Chg.of_below (below_drewN ((Below.refl _ (z.setCell ⟨r, freeS who, none⟩ (.int .i64 (last + 1)))).drew) nq) : Chg [] _ _)
        exact ⟨rfl, HE.out.chg hf (by simp) (by simp), HC.out.trans (hf.mono (by simp))⟩
    · have hcnt : cntF who = who.length := HCN.out.2 (by omega)
      have hz := show subR true who last = (2, 0, 0) by simp [subR, hcnt]
      have hz2 := show subW true who last = who by simp [subW, hcnt]
      have hz3 := show subL true who last = last by simp [subL, hcnt]
      have HZ1 := Lib.hid hz
      have HZ2 := Lib.hid hz2
      have HZ3 := Lib.hid hz3
      clear hz hz2 hz3 hcnt
      go_wp2
      go_ret3
      rw [HZ1.out, HZ2.out, HZ3.out]
      exact ⟨rfl, HS.out, Chg.of_below HU.out⟩

theorem refSubmitC {w : World} {p r : Nat} {who : List Int} {last : Int} (h : RefAt w p r who last) (s : ByteArray) (k n : Int) (hs : s.size ≤ 1000000) (hlb : last < 999999999) :
    Calls Try.prog 18 #[.pointer (some ⟨p, 0, none⟩), .agg #[.string s, .int .i64 k, .int .i64 n]] w fun e w' =>
      e = .returned (.tuple #[.int .i64 (subR (mayV s k n) who last).1, .int .i64 (subR (mayV s k n) who last).2.1, .int .i64 (subR (mayV s k n) who last).2.2]) ∧
        RefAt w' p r (subW (mayV s k n) who last) (subL (mayV s k n) who last) ∧ Chg [p, r] w w' := by
  cases hm : mayV s k n with
  | false =>
    refine (refSubmitNo h s k n hs hm).mono fun e w' ⟨he, hb⟩ => ?_
    have hc : Chg ([] : List Nat) w w' := Chg.of_below hb
    exact ⟨by simpa [subR] using he, by simpa [subW, subL] using h.chg hc (by simp) (by simp), hc.mono (by simp)⟩
  | true => exact refSubmitYes h s k n hs hm hlb

theorem sub_ok {who : List Int} {last : Int} (h : SlotsOk who last) (m : Bool) : (subW m who last).length = who.length ∧ subL m who last ≤ last + 1 := by
  unfold subW subL
  cases m <;> by_cases e : cntF who = who.length <;> simp [e] <;> omega

theorem freed_len (who : List Int) (id : Int) : (freed who id).length = who.length := by
  unfold freed
  split <;> simp

theorem want_eq {who : List Int} {last : Int} (h : SlotsOk who last) (x : Int) : (0 ≤ x ∧ x < who.length → (atF who x).getD 0 = who.getD x.toNat 0 ∧ (atF who x).isSome = decide (0 < who.getD x.toNat 0)) ∧
    (¬ (0 ≤ x ∧ x < who.length) → (atF who x).getD 0 = 0 ∧ (atF who x).isSome = false) := by
  have hg := h.ge x.toNat
  unfold atF
  constructor
  · rintro ⟨h1, h2⟩
    by_cases h3 : 0 < who.getD x.toNat 0
    · rw [if_pos ⟨h1, h3⟩]
      exact ⟨rfl, by simp [h3] at *; exact h3⟩
    · rw [if_neg (fun e => h3 e.2)]
      exact ⟨by simp only [Option.getD_none]; omega, by simp only [Option.isSome_none]; exact (decide_eq_false h3).symm⟩
  · intro h1
    by_cases h2 : 0 ≤ x
    · have : who.getD x.toNat 0 = 0 := by
        have : who.length ≤ x.toNat := by omega
        simp [List.getD_eq_getElem?_getD, List.getElem?_eq_none this]
      rw [if_neg (by omega)]
      exact ⟨rfl, rfl⟩
    · rw [if_neg (fun e => h2 e.1)]
      exact ⟨rfl, rfl⟩

end Go.Proofs.Ytjdhcclhlpeipaa
