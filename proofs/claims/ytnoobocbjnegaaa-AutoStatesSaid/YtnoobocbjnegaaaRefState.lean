/-
  Chapter 7: the document's state.
-/
import Derived.Test.YtnoobocbjnegaaaAutoB
import Derived.Test.YtnoobocbjnegaaaTableB
import Derived.Deep.DeepCutAuto
import Derived.RegionTactic
import Derived.BigRegion
import Derived.Outline
namespace Go.Proofs.Ytnoobocbjnegaaa
open Go.RowKit Auto Lev

/-- The positions within k. -/
def allV (f : Nat → Int) (k : Int) (m : Nat) : List (Int × Int) := ((List.range m).filter fun j => decide (f j ≤ k)).map fun (j : Nat) => ((j : Int), f j)
theorem allV_succ (f : Nat → Int) (k : Int) (m : Nat) : allV f k (m + 1) = allV f k m ++ (if f m ≤ k then [((m : Int), f m)] else []) := by
  unfold allV
  rw [List.range_succ, List.filter_append, List.map_append]
  by_cases h : f m ≤ k
  · simp [h]
  · simp [h]
theorem allV_len (f : Nat → Int) (k : Int) (m : Nat) : (allV f k m).length ≤ m := by
  unfold allV
  rw [List.length_map]
  have := List.length_filter_le (fun j => decide (f j ≤ k)) (List.range m)
  simpa using this
theorem allV_mem {f : Nat → Int} {k : Int} {m : Nat} {q : Int × Int} (h : q ∈ allV f k m) : ∃ j : Nat, j < m ∧ q = ((j : Int), f j) ∧ f j ≤ k := by
  unfold allV at h
  obtain ⟨j, hj, rfl⟩ := List.mem_map.1 h
  obtain ⟨h1, h2⟩ := List.mem_filter.1 hj
  exact ⟨j, List.mem_range.1 h1, rfl, by simpa using h2⟩

/-- Does b bar a? -/
def bars (a b : Int × Int) : Bool := decide (b.2 < a.2) && decide (max (a.1 - b.1) (b.1 - a.1) ≤ a.2 - b.2)
def stays (all : List (Int × Int)) (a : Int × Int) : Bool := !all.any (bars a)

theorem ref_state (f : Nat → Int) (k : Int) (m : Nat) : (allV f k m).filter (stays (allV f k m)) = stateV (fun j => min (f j) (k + 1)) m k := by
  have hs : ∀ j, j < m → f j ≤ k → stays (allV f k m) ((j : Int), f j) = !lesser (fun j => min (f j) (k + 1)) j m := by
    intro j hj hk
    unfold stays
    congr 1
    rw [Bool.eq_iff_iff, lesser_spec, List.any_eq_true]
    constructor
    · rintro ⟨b, hb, h⟩
      obtain ⟨x, hx, rfl, hxk⟩ := allV_mem hb
      unfold bars at h
      simp only [Bool.and_eq_true, decide_eq_true_eq] at h
      refine ⟨x, hx, ?_, ?_⟩
      · omega
      · unfold far; omega
    · rintro ⟨x, hx, h1, h2⟩
      unfold far at h2
      refine ⟨((x : Int), f x), ?_, ?_⟩
      · unfold allV
        exact List.mem_map.2 ⟨x, List.mem_filter.2 ⟨List.mem_range.2 hx, by simp; omega⟩, rfl⟩
      · unfold bars
        simp only [Bool.and_eq_true, decide_eq_true_eq]
        omega
  have key : ∀ n, n ≤ m → (allV f k n).filter (stays (allV f k m)) = upto (fun j => min (f j) (k + 1)) m k n := by
    intro n
    induction n with
    | zero => intro _; simp [allV, upto]
    | succ n ih =>
      intro hn
      rw [allV_succ, upto_succ, List.filter_append, ih (by omega)]
      congr 1
      by_cases hk : f n ≤ k
      · rw [if_pos hk]
        have h1 := hs n (by omega) hk
        unfold keeps
        have hd : decide (min (f n) (k + 1) ≤ k) = true := by simp; omega
        rw [hd, Bool.true_and, ← h1]
        have hm : min (f n) (k + 1) = f n := by omega
        by_cases hb : stays (allV f k m) ((n : Int), f n) = true
        · simp [hb, hm]
        · simp [hb]
      · rw [if_neg hk, if_neg]
        · rfl
        · unfold keeps
          simp
          intro h; omega
  exact key m (Nat.le_refl _)

theorem S_ref (q p : List Int) (k : Int) : (allV (fun j => D q p j p.length) k (q.length + 1)).filter (stays (allV (fun j => D q p j p.length) k (q.length + 1))) = S q p k := ref_state _ k _

set_option maxHeartbeats 1000000 in
theorem refState_no (vq vp : Value) (k : Int) (w : World) (h : k < 0 ∨ 4 < k) :
    Calls Try.prog 13 #[vq, vp, .int .i64 k] w fun e w' => e = .returned (.slice none 0 0) ∧ w = w' := by
  rcases h with h | h
  · go_enter Try.func13, Try.ntmps13
    go_wp2
    go_ret
    exact ⟨rfl, rfl⟩
  · have h' : ¬ k < 0 := by omega
    go_enter Try.func13, Try.ntmps13
    go_wp2
    go_ret
    exact ⟨rfl, rfl⟩

/-- Two positions that were laid. -/
def Laid2 (W0 : World) (x y : Value) (a b : Int × Int) (wr : World) : Prop :=
  ∃ g1 g2 : Nat, x = .pointer (some ⟨g1, 0, none⟩) ∧ y = .pointer (some ⟨g2, 0, none⟩) ∧ wr.cell? ⟨g1, 0, none⟩ = some (.int .i64 a.1) ∧ wr.cell? ⟨g1, 1, none⟩ = some (.int .i64 a.2) ∧
    wr.cell? ⟨g2, 0, none⟩ = some (.int .i64 b.1) ∧ wr.cell? ⟨g2, 1, none⟩ = some (.int .i64 b.2) ∧ Below W0.heap.size W0 wr

theorem take_filter_snoc (all : List (Int × Int)) (n : Nat) (h : n < all.length) (a : Int × Int) (ha : all.getD n (0, 0) = a) : (all.take (n + 1)).filter (stays all) = (all.take n).filter (stays all) ++ (if stays all a = true then [a] else []) := by
  have e : all[n] = a := by rw [← ha]; simp [List.getD_eq_getElem?_getD, h]
  rw [List.take_succ_eq_append_getElem h, List.filter_append, e]
  by_cases hb : stays all a = true
  · simp [hb]
  · simp [hb]

theorem any_snoc (all : List (Int × Int)) (m : Nat) (h : m < all.length) (a b : Int × Int) (hb : all.getD m (0, 0) = b) : (all.take (m + 1)).any (bars a) = ((all.take m).any (bars a) || bars a b) := by
  have e : all[m] = b := by rw [← hb]; simp [List.getD_eq_getElem?_getD, h]
  rw [List.take_succ_eq_append_getElem h, List.any_append, e]
  simp

set_option maxRecDepth 100000 in
set_option maxHeartbeats 4000000 in
theorem refStateP (vq vp : Value) (q p : List Int) (k : Int) (w : World) (hq : Reads w .i32 vq q) (hp : Reads w .i32 vp p) (lq : q.length ≤ 100000) (lp : p.length ≤ 100000) (hk : 0 ≤ k ∧ k ≤ 4) :
    Calls Try.prog 13 #[vq, vp, .int .i64 k] w fun e w' => ∃ v, e = .returned v ∧ OwnsP w' w.heap.size v (S q p k) ∧ Below w.heap.size w w' := by
  have hrw := refRows vq vp q p w hq hp lq lp
  obtain ⟨k1, k2⟩ := hk
  obtain ⟨i0, hi, hz0, hz1, hz2⟩ := info_parts infoPos
  have HI := Lib.hid hi
  have HZ0 := Lib.hid hz0
  have HZ1 := Lib.hid hz1
  have HZ2 := Lib.hid hz2
  have HL := Lib.hid (rowsV_len q p)
  clear hi hz0 hz1 hz2 hq hp
  go_enter Try.func13, Try.ntmps13
  go_wp2_with fail
  refine hrw.mono ?_
  rintro e w1 ⟨vr, rfl, hown, hb1⟩
  rw [HL.out] at hown
  obtain ⟨f, hfd⟩ : ∃ f : Nat → Int, f = fun j => D q p j p.length := ⟨_, rfl⟩
  have hown' : w1.ownsRow w.heap.size 3 1 vr (q.length + 1) (((List.range (q.length + 1)).map f).map (Value.int .i64)) := by rw [hfd]; exact hown
  obtain ⟨g, c, rfl, hc1, hc2, hrow⟩ := rowC_of hown' (by omega)
  have hglt := hrow.lt
  have HRC := Lib.hid (fun (wr : World) (hb : Below w1.heap.size w1 wr) (i : Nat) (hi : i < q.length + 1) => (hb.cell (p := ⟨g, i, none⟩) hglt).trans (hrow.cell i hi))
  have HB1 := Lib.hid hb1
  have HBD := Lib.hid (fun i (hi : i < q.length + 1) => D_bd q p i p.length (by omega) (Nat.le_refl _))
  unfold maxLen at hc2
  have HFD := Lib.hid hfd
  have HFB := Lib.hid (fun i (hi : i < q.length + 1) => show 0 ≤ f i ∧ f i ≤ 200000 from by rw [HFD.out]; exact ⟨(HBD.out i hi).1, by have := HBD.out i hi; dsimp only; omega⟩)
  clear hrw hown hown' hrow hfd hb1 HBD
  go_wp2
  go_loopw [7, 10] (fun v i wr => ∃ n : Nat, n ≤ q.length + 1 ∧ i = .int .i64 n ∧ OwnsP wr w1.heap.size v (allV f k n) ∧ Below w1.heap.size w1 wr) (fun _ i _ => q.length + 1 - (intOf i).toNat)
  case atStart => exact ⟨0, Nat.zero_le _, rfl, World.ownsRow_nil _ _ _ _, Below.refl _ _⟩
  case round =>
    obtain ⟨n, hn, rfl, hown, hbel⟩ := hrel
    by_cases hlt : n < q.length + 1
    · have hc := HRC.out _ hbel n hlt
      have bn := HFB.out n hlt
      have HAS := Lib.hid (allV_succ f k n)
      have HO := Lib.hid hown
      have hal := allV_len f k n
      generalize hfn : f n = F at hc bn HAS
      have q1 : (0 : Int) ≤ (n : Int) := by omega
      have q2 : (n : Int) < (q.length : Int) + 1 := by omega
      clear hfn hown
      by_cases hF : F ≤ k
      · have hu : allV f k (n + 1) = allV f k n ++ [((n : Int), F)] := by rw [HAS.out, if_pos hF]
        have HU := Lib.hid hu
        clear hu
        go_wp2_with (at_builtin; refine wpList_append_own _ rfl (.tmp 37) (.tmp 44) 25 rfl w1.heap.size 35 i0 (.agg #[.int .i64 0, .int .i64 0]) 2 16 Try.underlying25 HI.out HZ0.out HZ1.out HZ2.out rfl (by decide) _ _ _ rfl (HO.out.alloc _) ⟨_, 0, none⟩ 1 1 [.int .i64 (n : Int), .int .i64 F] rfl rfl (cells_lit _ _ _) (by intro u hu; simp at hu; rcases hu with rfl | rfl <;> rfl) (by unfold maxLen; omega) (by omega) (by have := hbel.size; simp; omega) ?_; intro v1 w2 hown3 hgrow _)
        have hb3 : Below w1.heap.size w1 w2 := (hbel.alloc hbel.size _).grown hgrow (by have := hbel.size; simp; omega) (fun j hj => (HO.out.lt j hj).1)
        clear hgrow
        go_wp2
        go_roundw
        case rel =>
          refine ⟨n + 1, by omega, by go_num, ?_, hb3⟩
          unfold OwnsP
          rw [HU.out, posCells_snoc]
          simpa using hown3
        case measure => simp [intOf]; omega
      · have hu : allV f k (n + 1) = allV f k n := by rw [HAS.out, if_neg hF]; simp
        have HU := Lib.hid hu
        clear hu
        go_wp2
        go_roundw
        case rel => exact ⟨n + 1, by omega, by go_num, HU.out ▸ HO.out, hbel⟩
        case measure => simp [intOf]; omega
    · obtain rfl : n = q.length + 1 := by omega
      have hal := allV_len f k (q.length + 1)
      have HSR := Lib.hid (show (allV f k (q.length + 1)).filter (stays (allV f k (q.length + 1))) = S q p k by rw [HFD.out]; exact S_ref q p k)
      have hrp := hown.reads
      have HAB := Lib.hid (fun a (ha : a ∈ allV f k (q.length + 1)) => show 0 ≤ a.1 ∧ a.1 ≤ 200000 ∧ 0 ≤ a.2 ∧ a.2 ≤ 200000 from by
        obtain ⟨j, hj, rfl, _⟩ := allV_mem ha
        have := HFB.out j hj
        dsimp only
        omega)
      generalize allV f k (q.length + 1) = all at hrp hal HSR HAB
      obtain ⟨aa, ca, rfl, ma, _, ra⟩ := hrp
      have HW1 := Lib.hid (HB1.out.trans (hbel.mono HB1.out.size))
      have HRA := Lib.hid ra
      clear hown hbel ra
      obtain ⟨w2, rfl⟩ : ∃ w2 : World, w2 = wr := ⟨_, rfl⟩
      go_wp2
      go_loopw [8, 11, 12, 13, 14, 15] (fun v i _ _ _ _ wr => ∃ n : Nat, n ≤ all.length ∧ i = .int .i64 n ∧ OwnsP wr w2.heap.size v ((all.take n).filter (stays all)) ∧ Below w2.heap.size w2 wr) (fun _ i _ _ _ _ _ => all.length - (intOf i).toNat)
      case atStart => exact ⟨0, Nat.zero_le _, rfl, World.ownsRow_nil _ _ _ _, Below.refl _ _⟩
      case round =>
        obtain ⟨n, hn, rfl, hown, hbel⟩ := hrel
        obtain ⟨w3, rfl⟩ : ∃ w3 : World, w3 = wr := ⟨_, rfl⟩
        by_cases hlt2 : n < all.length
        · have HO := Lib.hid hown
          have HB2 := Lib.hid hbel
          generalize hav : all.getD n (0, 0) = av
          have HAV := Lib.hid hav
          have hab := HAB.out av (by rw [← hav]; simp [List.getD_eq_getElem?_getD, hlt2])
          obtain ⟨ax, ay⟩ := av
          dsimp only at hab
          obtain ⟨gb, go, rfl, hgb, cax, cay⟩ := HRA.out n hlt2
          rw [HAV.out] at cax cay
          dsimp only at cax cay
          have q1 : (0 : Int) ≤ (n : Int) := by omega
          have q2 : (n : Int) < (all.length : Int) := by omega
          clear hown hav hbel
          go_wp2
          go_loopw [12, 13, 14, 15] (fun b i _ _ wr => ∃ m : Nat, m ≤ all.length ∧ i = .int .i64 m ∧ b = .bool (!(all.take m).any (bars (ax, ay))) ∧ Below w3.heap.size w3 wr) (fun _ i _ _ _ => all.length - (intOf i).toNat)
          case atStart => exact ⟨0, Nat.zero_le _, rfl, rfl, Below.refl _ _⟩
          case round =>
            obtain ⟨m, hm, rfl, rfl, hbr⟩ := hrel
            have hB2r := HB2.out.trans (hbr.mono HB2.out.size)
            have cax2 := (hB2r.cell (p := ⟨gb, go + n * 2, none⟩) hgb).trans cax
            have cay2 := (hB2r.cell (p := ⟨gb, go + n * 2 + 1, none⟩) hgb).trans cay
            by_cases hlt3 : m < all.length
            · generalize hbv : all.getD m (0, 0) = bv
              have HBV := Lib.hid hbv
              have hbb := HAB.out bv (by rw [← hbv]; simp [List.getD_eq_getElem?_getD, hlt3])
              have HAN := Lib.hid (any_snoc all m hlt3 (ax, ay) bv hbv)
              obtain ⟨gb', go', e, _, cbx, cby⟩ := HRA.out m hlt3
              simp only [Option.some.injEq, Addr.mk.injEq, and_true] at e
              obtain ⟨rfl, rfl⟩ := e
              rw [hbv] at cbx cby
              obtain ⟨bx, by'⟩ := bv
              dsimp only at hbb cbx cby
              have cbx2 := (hB2r.cell (p := ⟨gb, go + m * 2, none⟩) hgb).trans cbx
              have cby2 := (hB2r.cell (p := ⟨gb, go + m * 2 + 1, none⟩) hgb).trans cby
              have p1 : (0 : Int) ≤ (m : Int) := by omega
              have p2 : (m : Int) < (all.length : Int) := by omega
              generalize hT : (all.take m).any (bars (ax, ay)) = T
              have HT := Lib.hid hT
              have HBR := Lib.hid hbr
              clear hbv hT cax cay cbx cby hbr hB2r
              obtain ⟨w4, hw4⟩ : ∃ w4 : World, w4 = wr := ⟨_, rfl⟩
              subst hw4
              have hg4 : gb < w4.heap.size := Nat.lt_of_lt_of_le hgb (Nat.le_trans HB2.out.size HBR.out.size)
              have e1 : ¬ gb = w4.heap.size := by omega
              have e2 : ¬ gb = w4.heap.size + 1 := by omega
              go_upto_region 17 with fail
              go_cut [14, 15] (fun x y wx => Laid2 w4 x y (ax, ay) (bx, by') wx)
              case first =>
                go_region
                · go_wp2_with fail
                  go_meet
                  exact ⟨w4.heap.size, w4.heap.size + 1, rfl, rfl, by simp, by simp, by simp, by simp, ((((Below.refl _ _).alloc (Nat.le_refl _) _).alloc (by simp) _).drew)⟩
                · go_wp2_with fail
                  go_meet
                  exact ⟨w4.heap.size + 1, w4.heap.size, rfl, rfl, by simp, by simp, by simp, by simp, ((((Below.refl _ _).alloc (Nat.le_refl _) _).alloc (by simp) _).drew)⟩
              case rest =>
                obtain ⟨g1, g2, rfl, rfl, u1, u2, u3, u4', hbc⟩ := hcut
                dsimp only at u1 u2 u3 u4'
                have HBC := Lib.hid (HBR.out.trans (hbc.mono HBR.out.size))
                clear cax2 cay2 cbx2 cby2 hbc hg4 e1 e2
                by_cases h1 : by' < ay
                · have d1 : decide (by' < ay) = true := by simpa using h1
                  by_cases h2 : max (ax - bx) (bx - ax) ≤ ay - by'
                  · have HBB := Lib.hid (show bars (ax, ay) (bx, by') = true by unfold bars; simp [h1]; exact h2)
                    go_wp2
                    go_roundw
                    case rel => exact ⟨m + 1, by omega, by go_num, by rw [HAN.out, HT.out, HBB.out]; simp, HBC.out⟩
                    case measure => simp [intOf]; omega
                  · have HBB := Lib.hid (show bars (ax, ay) (bx, by') = false by unfold bars; simp [h1]; omega)
                    go_wp2
                    go_roundw
                    case rel => exact ⟨m + 1, by omega, by go_num, by rw [HAN.out, HT.out, HBB.out]; simp, HBC.out⟩
                    case measure => simp [intOf]; omega
                · have d1 : decide (by' < ay) = false := by simpa using h1
                  have HBB := Lib.hid (show bars (ax, ay) (bx, by') = false by unfold bars; simp [h1])
                  go_wp2
                  go_roundw
                  case rel => exact ⟨m + 1, by omega, by go_num, by rw [HAN.out, HT.out, HBB.out]; simp, HBC.out⟩
                  case measure => simp [intOf]; omega
            · obtain rfl : m = all.length := by omega
              have HFS := Lib.hid (take_filter_snoc all n hlt2 (ax, ay) HAV.out)
              have ho2 := OwnsP.below HO.out hbr
              have hst : (!((all.take all.length).any (bars (ax, ay)))) = stays all (ax, ay) := by rw [List.take_of_length_le (Nat.le_refl _)]; rfl
              rw [hst]
              have hfl : ((all.take n).filter (stays all)).length ≤ all.length := Nat.le_trans (List.length_filter_le _ _) (by rw [List.length_take]; omega)
              have HO2 := Lib.hid ho2
              have HB4 := Lib.hid hB2r
              clear hst ho2 cax cay
              by_cases hs : stays all (ax, ay) = true
              · rw [hs]
                have hu := HFS.out
                rw [if_pos hs] at hu
                have HU := Lib.hid hu
                clear hs hu
                go_wp2_with (at_builtin; refine wpList_append_own _ rfl (.tmp 91) (.tmp 96) 25 rfl w2.heap.size 35 i0 (.agg #[.int .i64 0, .int .i64 0]) 2 16 Try.underlying25 HI.out HZ0.out HZ1.out HZ2.out rfl (by decide) _ _ _ rfl (HO2.out.alloc _) ⟨_, 0, none⟩ 1 1 [.int .i64 ax, .int .i64 ay] rfl rfl (cells_lit _ _ _) (by intro u hu; simp at hu; rcases hu with rfl | rfl <;> rfl) (by unfold maxLen; omega) (by omega) (by have := hB2r.size; simp; omega) ?_; intro v1 w5 hown3 hgrow _)
                have hb3 : Below w2.heap.size w2 w5 := (HB4.out.alloc HB4.out.size _).grown hgrow (by have := HB4.out.size; simp; omega) (fun j hj => (HO2.out.lt j hj).1)
                clear hgrow
                go_wp2
                go_roundw
                have ho3 : OwnsP w5 w2.heap.size v1 ((all.take (n + 1)).filter (stays all)) := by
                  unfold OwnsP
                  rw [HU.out, posCells_snoc]
                  simpa using hown3
                case rel =>
                  (repeat apply Exists.intro)
                  exact ⟨⟨n + 1, by omega, by go_num, ho3, hb3⟩, rfl⟩
                case measure => simp [intOf]; omega
              · have hs2 : stays all (ax, ay) = false := by simpa using hs
                rw [hs2]
                have hu := HFS.out
                rw [if_neg hs, List.append_nil] at hu
                have HU := Lib.hid hu
                clear hs hs2 hu
                go_wp2
                go_roundw
                case rel => exact ⟨n + 1, by omega, by go_num, HU.out ▸ HO2.out, HB4.out⟩
                case measure => simp [intOf]; omega
        · obtain rfl : n = all.length := by omega
          rw [List.take_of_length_le (Nat.le_refl _), HSR.out] at hown
          go_wp2
          go_ret
          exact ⟨_, rfl, ownsRow_base hown HW1.out.size, HW1.out.trans (hbel.mono HW1.out.size)⟩
end Go.Proofs.Ytnoobocbjnegaaa
