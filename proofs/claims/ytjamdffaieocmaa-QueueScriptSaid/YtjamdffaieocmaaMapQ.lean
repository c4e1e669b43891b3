/-
  A map from places to Asks, as a function: what each operation of it answers.
-/
import Derived.Test.YtjamdffaieocmaaRows
import Derived.Test.YtjamdffaieocmaaChg
import Derived.Maps.OwnSet
import Derived.WideKeyEntry
import Derived.DeepKeys4
import Derived.WalkKit
namespace Go.Proofs.Ytjamdffaieocmaa
open Go.RowKit Go.Maps Go.ChangeMaps Go.MapKept Go.WideShapes

structure AskV where
  slot : Int
  query : Int
  shard : Int
  seq : Int
  epoch : Int
  text : ByteArray
  k : Int
  batch : Int
  first : Bool
  dist : Int
  word : ByteArray

instance : Inhabited AskV := ⟨⟨0, 0, 0, 0, 0, ByteArray.empty, 0, 0, false, 0, ByteArray.empty⟩⟩

def AskV.cells (r : AskV) : List Value := [.int .i64 r.slot, .int .i64 r.query, .int .i64 r.shard, .int .i64 r.seq, .int .i64 r.epoch, .string r.text, .int .i64 r.k, .int .i64 r.batch, .bool r.first, .int .i64 r.dist, .string r.word]
def AskV.val (r : AskV) : Value := .agg r.cells.toArray

theorem AskV.val_inj {a b : AskV} (h : a.val = b.val) : a = b := by
  cases a; cases b
  have h2 := congrArg (fun v => match v with | Value.agg cs => cs.toList | _ => []) h
  simp only [AskV.val, AskV.cells, List.cons.injEq, Value.int.injEq, Value.string.injEq, Value.bool.injEq, true_and, and_true] at h2
  simp only [AskV.mk.injEq]
  exact h2

open Classical in
noncomputable def askElem (v : Value) : Option (DataW AskV × List MemPlace) := if h : ∃ r : AskV, v = r.val then some (.held h.choose, []) else none

theorem askElem_val (r : AskV) : askElem r.val = some (.held r, []) := by
  unfold askElem
  have h : ∃ x : AskV, r.val = x.val := ⟨r, rfl⟩
  rw [dif_pos h, ← AskV.val_inj h.choose_spec]

theorem askElem_inv {v : Value} {r : AskV} {ps : List MemPlace} (h : askElem v = some (.held r, ps)) : v = r.val := by
  unfold askElem at h
  split at h
  · rename_i hx
    simp only [Option.some.injEq, Prod.mk.injEq, DataW.held.injEq] at h
    rw [← h.1]
    exact hx.choose_spec
  · cases h

def placeV (x y : Int) : Value := .agg #[.int .i64 x, .int .i64 y]
def wfI (x : Int) : Prop := (Lit.int .i64 x).wf = true
theorem wfI_of {x : Int} (h1 : -9223372036854775808 ≤ x) (h2 : x < 9223372036854775808) : wfI x := WalkArith.wf_i64 (by omega)

theorem mqLaid : laidOutB Try.prog = true := by kernel_rfl
theorem mqKeyed : Keyed Try.prog 56 := Keyed.of_law (deep_law_laid mqLaid (m := 5) (by decide) (of_decide_eq_true (by kernel_rfl)) (by kernel_rfl) (by kernel_rfl))
theorem mqZero (w : World) : (zeroValue 32).run Try.prog w = .ok (default : AskV).val w := by kernel_rfl

noncomputable def kP (x y : Int) : Lit := (keyOf Try.prog 56 (placeV x y)).getD (.int .i64 0)

theorem lits_place {x y : Int} (hx : wfI x) (hy : wfI y) (d : Nat) : Try.prog.keyLits (d + 2) 56 [.int .i64 x, .int .i64 y] = some [.int .i64 x, .int .i64 y] := by
  have c1 : Try.prog.cellsOf 56 = 2 := by kernel_rfl
  have c2 : Try.prog.cellsOf 3 = 1 := by kernel_rfl
  unfold wfI at hx hy
  simp [Program.keyLits, Try.underlying56, Try.underlying3, c1, c2, hx, hy]

theorem keyP {x y : Int} (hx : wfI x) (hy : wfI y) : keyOf Try.prog 56 (placeV x y) = some (kP x y) := by
  have h : ∃ l, keyOf Try.prog 56 (placeV x y) = some l := by
    have hs : Try.prog.types.size + 1 = (Try.prog.types.size - 1) + 2 := by
      have : 0 < Try.prog.types.size := of_decide_eq_true (by kernel_rfl)
      omega
    have c0 : Try.prog.keyType 56 = true := by kernel_rfl
    have c1 : Try.prog.cellsOf 56 = 2 := by kernel_rfl
    unfold keyOf
    rw [Try.underlying56, hs]
    simp [placeV, Value.formed, Try.underlying56, Value.cells, c0, c1, lits_place hx hy]
  obtain ⟨l, hl⟩ := h
  unfold kP
  rw [hl]
  rfl

theorem kP_inj {x y x' y' : Int} (hx : wfI x) (hy : wfI y) (hx' : wfI x') (hy' : wfI y') (h : kP x y = kP x' y') : x = x' ∧ y = y' := by
  have h1 := keyP hx hy
  have h2 := keyP hx' hy'
  rw [← h] at h2
  have := mqKeyed.inj h1 h2
  simpa [placeV] using this

/-- Block b is a map that holds f, n entries in all. -/
def MapQ (w : World) (b : Nat) (f : Int → Int → Option AskV) (n : Nat) : Prop :=
  ∃ D : DataW AskV, w.ownsMap Try.prog 56 askElem b n D ∧ Maps.size D = n ∧ (∀ x y, wfI x → wfI y → Maps.has D (kP x y) = (f x y).isSome) ∧
    ∀ x y, wfI x → wfI y → D.atKey (kP x y) (.held default) = .held ((f x y).getD default)

theorem own_tight {H : Type} {w : World} {P : Program} {k : TypeId} {R : Value → Option (DataW H × List MemPlace)} {b n : Nat} {D : DataW H} (h : w.ownsMap P k R b n D) : w.ownsMap P k R b (Maps.size D) D := by
  obtain ⟨es, clock, hb, F, hs, rfl⟩ := h
  exact ⟨es, clock, hb, F, by simp [Maps.size, length_sorted], rfl⟩

variable {w : World} {b : Nat} {f : Int → Int → Option AskV} {n : Nat}

theorem MapQ.lt (h : MapQ w b f n) : b < w.heap.size := by
  obtain ⟨D, h, _⟩ := h
  exact h.lt

theorem MapQ.same {w' : World} (h : MapQ w b f n) (hb : w'.heap[b]? = w.heap[b]?) : MapQ w' b f n := by
  obtain ⟨D, ⟨es, clock, h1, r1⟩, r⟩ := h
  exact ⟨D, ⟨es, clock, hb.trans h1, r1⟩, r⟩

theorem MapQ.made (w : World) : MapQ (w.alloc (.map #[] 0)) w.heap.size (fun _ _ => none) 0 :=
  ⟨.map [], World.ownsMap_made _ _ _ _, rfl, fun _ _ _ _ => rfl, fun _ _ _ _ => rfl⟩

theorem MapQ.look_ok (h : MapQ w b f n) {x y : Int} (hx : wfI x) (hy : wfI y) :
    (Instr.lookup 50 (.map (some b)) (placeV x y) true).run Try.prog w = .ok (.tuple #[((f x y).getD default).val, .bool (f x y).isSome]) w := by
  obtain ⟨D, h, _, h1, h2⟩ := h
  obtain ⟨v, ps, hr, hv⟩ := h.look_ok mqKeyed Try.underlying50 (mqZero _) (zd := .held default) (zp := []) (askElem_val _) (keyP hx hy)
  rw [h2 x y hx hy] at hv
  rw [hr, h1 x y hx hy, askElem_inv hv]

theorem MapQ.look (h : MapQ w b f n) {x y : Int} (hx : wfI x) (hy : wfI y) :
    (Instr.lookup 50 (.map (some b)) (placeV x y) false).run Try.prog w = .ok ((f x y).getD default).val w := by
  obtain ⟨D, h, _, h1, h2⟩ := h
  obtain ⟨v, ps, hr, hv⟩ := h.lookup mqKeyed Try.underlying50 (mqZero _) (zd := .held default) (zp := []) (askElem_val _) (keyP hx hy)
  rw [h2 x y hx hy] at hv
  rw [hr, askElem_inv hv]

theorem MapQ.drop (h : MapQ w b f n) {x y : Int} (hx : wfI x) (hy : wfI y) :
    ∃ w', (∀ ty, (Builtin.delete_ #[50, 56] ty #[.map (some b), placeV x y]).run Try.prog w = .ok (.tuple #[]) w') ∧
      (∀ g : Int → Int → Option AskV, g x y = none → (∀ x' y', x' ≠ x ∨ y' ≠ y → g x' y' = f x' y') → MapQ w' b g (n - if (f x y).isSome then 1 else 0)) ∧ w.mapTurned w' b := by
  obtain ⟨D, h, hn, h1, h2⟩ := h
  have T := h.tidy mqKeyed
  obtain ⟨w', hr, ho, ht⟩ := h.drop mqKeyed Try.underlying50 (keyP hx hy) 0
  have hs := size_del (k := kP x y) T
  have e0 : Maps.size (D.del (kP x y)) = n - if (f x y).isSome then 1 else 0 := by
    rw [h1 x y hx hy, hn] at hs
    split at hs <;> split <;> simp_all <;> omega
  refine ⟨w', fun ty => hr, fun g hg hg2 => ⟨D.del (kP x y), by rw [← e0]; exact own_tight ho, e0, fun x' y' hx' hy' => ?_, fun x' y' hx' hy' => ?_⟩, ht⟩
  · by_cases e : x' = x ∧ y' = y
    · obtain ⟨rfl, rfl⟩ := e
      rw [has_del_same, hg]
      rfl
    · have hne : kP x' y' ≠ kP x y := fun e2 => e (kP_inj hx' hy' hx hy e2)
      rw [has_del_other hne, h1 x' y' hx' hy', hg2 x' y' (by omega)]
  · by_cases e : x' = x ∧ y' = y
    · obtain ⟨rfl, rfl⟩ := e
      rw [atKey_del_same, hg]
      rfl
    · have hne : kP x' y' ≠ kP x y := fun e2 => e (kP_inj hx' hy' hx hy e2)
      rw [atKey_del_other hne, h2 x' y' hx' hy', hg2 x' y' (by omega)]

theorem MapQ.store (h : MapQ w b f n) (hn : n < 1000000) {x y : Int} (hx : wfI x) (hy : wfI y) (r : AskV) :
    ∃ w', (Instr.mapUpdate 50 (.map (some b)) (placeV x y) r.val).run Try.prog w = .ok () w' ∧
      (∀ g : Int → Int → Option AskV, g x y = some r → (∀ x' y', x' ≠ x ∨ y' ≠ y → g x' y' = f x' y') → MapQ w' b g (if (f x y).isSome then n else n + 1)) ∧ w.mapTurned w' b := by
  obtain ⟨D, h, hn', h1, h2⟩ := h
  have T := h.tidy mqKeyed
  have hk : WideAt.IsKeyLit (kP x y) := mqKeyed.key (keyP hx hy)
  obtain ⟨w', hr, ho, ht⟩ := h.store mqKeyed Try.underlying50 (by unfold maxLen; omega) (keyP hx hy) (askElem_val r)
  have hs := size_put (k := kP x y) T (.held r)
  have e : Maps.size (D.put (kP x y) (.held r)) = if (f x y).isSome then n else n + 1 := by
    rw [hs, h1 x y hx hy, hn']
  refine ⟨w', hr, fun g hg hg2 => ⟨D.put (kP x y) (.held r), by rw [← e]; exact own_tight ho, e, fun x' y' hx' hy' => ?_, fun x' y' hx' hy' => ?_⟩, ht⟩
  · by_cases e : x' = x ∧ y' = y
    · obtain ⟨rfl, rfl⟩ := e
      rw [has_put_same T.isMap hk, hg]
      rfl
    · have hne : kP x' y' ≠ kP x y := fun e2 => e (kP_inj hx' hy' hx hy e2)
      rw [has_put_other hne, h1 x' y' hx' hy', hg2 x' y' (by omega)]
  · by_cases e : x' = x ∧ y' = y
    · obtain ⟨rfl, rfl⟩ := e
      rw [atKey_put_same T.isMap hk, hg]
      rfl
    · have hne : kP x' y' ≠ kP x y := fun e2 => e (kP_inj hx' hy' hx hy e2)
      rw [atKey_put_other hne, h2 x' y' hx' hy', hg2 x' y' (by omega)]

end Go.Proofs.Ytjamdffaieocmaa
