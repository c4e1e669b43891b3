/-
  A map from ints to ints, as a function: what each operation of it answers.
-/
import Derived.Test.YtjdhcclhlpeipaaRows
import Derived.Test.YtjdhcclhlpeipaaChg
import Derived.Maps.OwnSet
import Derived.WideKeyEntry
import Derived.WalkKit
namespace Go.Proofs.Ytjdhcclhlpeipaa
open Go.RowKit Go.Maps Go.ChangeMaps Go.MapKept Go.WideShapes

def wfI (x : Int) : Prop := (Lit.int .i64 x).wf = true

theorem wfI_of {x : Int} (h1 : -9223372036854775808 ≤ x) (h2 : x < 9223372036854775808) : wfI x := WalkArith.wf_i64 (by omega)

theorem mzKeyed : Keyed Try.prog 3 := int_keyed Try.underlying3
theorem mzZero (w : World) : (zeroValue 3).run Try.prog w = .ok (.int .i64 0) w := by kernel_rfl

def kZ (x : Int) : Lit := .int .i64 x

theorem kZ_ne {x y : Int} (h : x ≠ y) : kZ x ≠ kZ y := by
  intro e
  unfold kZ at e
  injection e with _ e
  exact h e

/-- Block b is a map that holds f, n entries in all. -/
def MapZ (w : World) (b : Nat) (f : Int → Option Int) (n : Nat) : Prop :=
  ∃ D : DataW Unit, w.ownsMap Try.prog 3 (plainElem Try.prog 3) b n D ∧ Maps.size D = n ∧ (∀ x, wfI x → Maps.has D (kZ x) = (f x).isSome) ∧
    ∀ x, wfI x → D.atKey (kZ x) (.lit (.int .i64 0)) = .lit (.int .i64 ((f x).getD 0))

theorem own_tight {H : Type} {w : World} {P : Program} {k : TypeId} {R : Value → Option (DataW H × List MemPlace)} {b n : Nat} {D : DataW H} (h : w.ownsMap P k R b n D) : w.ownsMap P k R b (Maps.size D) D := by
  obtain ⟨es, clock, hb, F, hs, rfl⟩ := h
  exact ⟨es, clock, hb, F, by simp [Maps.size, length_sorted], rfl⟩

variable {w : World} {b : Nat} {f : Int → Option Int} {n : Nat}

theorem MapZ.lt (h : MapZ w b f n) : b < w.heap.size := by
  obtain ⟨D, h, _⟩ := h
  exact h.lt

theorem MapZ.kept {w' : World} {row : Option Nat} (h : MapZ w b f n) (hg : w.grownBy w' row) (hne : some b ≠ row) : MapZ w' b f n := by
  obtain ⟨D, h, r⟩ := h
  exact ⟨D, h.kept hg hne, r⟩

theorem MapZ.same {w' : World} (h : MapZ w b f n) (hb : w'.heap[b]? = w.heap[b]?) : MapZ w' b f n := by
  obtain ⟨D, ⟨es, clock, h1, r1⟩, r⟩ := h
  exact ⟨D, ⟨es, clock, hb.trans h1, r1⟩, r⟩

theorem MapZ.made (w : World) : MapZ (w.alloc (.map #[] 0)) w.heap.size (fun _ => none) 0 :=
  ⟨.map [], World.ownsMap_made _ _ _ _, rfl, fun _ _ => rfl, fun _ _ => rfl⟩

theorem MapZ.look_ok (h : MapZ w b f n) {x : Int} (hx : wfI x) :
    (Instr.lookup 53 (.map (some b)) (.int .i64 x) true).run Try.prog w = .ok (.tuple #[.int .i64 ((f x).getD 0), .bool (f x).isSome]) w := by
  obtain ⟨D, h, _, h1, h2⟩ := h
  obtain ⟨v, ps, hr, hv⟩ := h.look_ok mzKeyed Try.underlying53 (mzZero _) (zd := .lit (.int .i64 0)) (zp := []) (plainElem_int Try.underlying3 (by decide)) (keyOf_int_mk Try.underlying3 hx)
  obtain ⟨c, rfl, hc, _⟩ := plainElem_int_inv Try.underlying3 hv
  simp only [Prod.mk.injEq] at hc
  have h3 := h2 x hx
  unfold kZ at h3
  rw [hc.1] at h3
  injection h3 with h3
  injection h3 with _ h3
  have h4 := h1 x hx
  unfold kZ at h4
  rw [hr, h3, h4]

theorem MapZ.look (h : MapZ w b f n) {x : Int} (hx : wfI x) :
    (Instr.lookup 53 (.map (some b)) (.int .i64 x) false).run Try.prog w = .ok (.int .i64 ((f x).getD 0)) w := by
  obtain ⟨D, h, _, h1, h2⟩ := h
  obtain ⟨c, hr, hc, _⟩ := h.lookup_int mzKeyed Try.underlying53 Try.underlying3 (mzZero _) (keyOf_int_mk Try.underlying3 hx)
  have h3 := h2 x hx
  unfold kZ at h3
  rw [hc] at h3
  injection h3 with h3
  injection h3 with _ h3
  rw [hr, h3]

theorem MapZ.len (h : MapZ w b f n) (ty : TypeId) : (Builtin.len_ #[53] ty #[.map (some b)]).run Try.prog w = .ok (.int .i64 n) w := by
  obtain ⟨D, h, hn, _⟩ := h
  rw [h.len Try.underlying53, hn]

theorem MapZ.drop (h : MapZ w b f n) {x : Int} (hx : wfI x) :
    ∃ w', (∀ ty, (Builtin.delete_ #[53, 3] ty #[.map (some b), .int .i64 x]).run Try.prog w = .ok (.tuple #[]) w') ∧
      MapZ w' b (fun y => if y = x then none else f y) (n - if (f x).isSome then 1 else 0) ∧ w.mapTurned w' b := by
  obtain ⟨D, h, hn, h1, h2⟩ := h
  have T := h.tidy mzKeyed
  obtain ⟨w', hr, ho, ht⟩ := h.drop mzKeyed Try.underlying53 (keyOf_int_mk Try.underlying3 hx) 0
  have hr : ∀ ty, (Builtin.delete_ #[53, 3] ty #[.map (some b), .int .i64 x]).run Try.prog w = .ok (.tuple #[]) w' := fun ty => hr
  have hs := size_del (k := kZ x) T
  have hk : (D.del (.int .i64 x)) = D.del (kZ x) := rfl
  have e : Maps.size (D.del (kZ x)) = n - if (f x).isSome then 1 else 0 := by
    rw [h1 x hx, hn] at hs
    split at hs <;> split <;> simp_all <;> omega
  refine ⟨w', hr, ⟨D.del (kZ x), by rw [← e]; exact own_tight ho, e, fun y hy => ?_, fun y hy => ?_⟩, ht⟩
  · by_cases hxy : y = x
    · subst hxy
      simp [has_del_same]
    · rw [has_del_other (kZ_ne hxy), h1 y hy]
      simp [hxy]
  · by_cases hxy : y = x
    · subst hxy
      simp [atKey_del_same]
    · rw [atKey_del_other (kZ_ne hxy), h2 y hy]
      simp [hxy]

theorem MapZ.store (h : MapZ w b f n) (hn : n < 1000000) {x y : Int} (hx : wfI x) (hy : wfI y) :
    ∃ w', (Instr.mapUpdate 53 (.map (some b)) (.int .i64 x) (.int .i64 y)).run Try.prog w = .ok () w' ∧
      MapZ w' b (fun z => if z = x then some y else f z) (if (f x).isSome then n else n + 1) ∧ w.mapTurned w' b := by
  obtain ⟨D, h, hn', h1, h2⟩ := h
  have T := h.tidy mzKeyed
  have hk : WideAt.IsKeyLit (kZ x) := mzKeyed.key (keyOf_int_mk Try.underlying3 hx)
  obtain ⟨w', hr, ho, ht⟩ := h.store mzKeyed Try.underlying53 (by unfold maxLen; omega) (keyOf_int_mk Try.underlying3 hx) (plainElem_int Try.underlying3 hy)
  have hs := size_put (k := kZ x) T (.lit (.int .i64 y))
  have e : Maps.size (D.put (kZ x) (.lit (.int .i64 y))) = if (f x).isSome then n else n + 1 := by
    rw [hs, h1 x hx, hn']
  refine ⟨w', hr, ⟨D.put (kZ x) (.lit (.int .i64 y)), by rw [← e]; exact own_tight ho, e, fun z hz => ?_, fun z hz => ?_⟩, ht⟩
  · by_cases hxy : z = x
    · subst hxy
      simp [has_put_same T.isMap hk]
    · rw [has_put_other (kZ_ne hxy), h1 z hz]
      simp [hxy]
  · by_cases hxy : z = x
    · subst hxy
      simp [atKey_put_same T.isMap hk]
    · rw [atKey_put_other (kZ_ne hxy), h2 z hz]
      simp [hxy]

/-- An assignment in two steps: the entry first, its value later, wherever the map stands the same. -/
theorem MapZ.entry (h : MapZ w b f n) (hn : n < 1000000) {x : Int} (hx : wfI x) :
    ∃ o0 v0 st o1, w.heap[b]? = some o0 ∧ (∀ w2 : World, w2.heap[b]? = some o0 → (Instr.mapEntry 53 (.map (some b)) (.int .i64 x)).run Try.prog w2 = .ok (.tuple #[v0, .int .i64 st]) (setBlock w2 b o1)) ∧
      ∀ y : Int, wfI y → ∃ o2, (∀ w2 : World, w2.heap[b]? = some o1 → (Instr.entryStore 53 (.map (some b)) (.int .i64 st) (.int .i64 y)).run Try.prog w2 = .ok () (setBlock w2 b o2)) ∧
        ∀ w2 : World, w2.heap[b]? = some o2 → MapZ w2 b (fun z => if z = x then some y else f z) (if (f x).isSome then n else n + 1) := by
  have hlt := h.lt
  obtain ⟨D, ⟨es, clock, hb, F, hs, hD⟩, _⟩ := id h
  have K := mzKeyed
  have hkey : keyOf Try.prog 3 (.int .i64 x) = some (kZ x) := keyOf_int_mk Try.underlying3 hx
  have ht := Try.underlying53
  obtain ⟨s1, s2, s3⟩ := F.stamped
  have fin : ∀ (y : Int) (es2 : Array MapEntry) (c2 : Nat) (w2 : World), wfI y → w2.heap[b]? = some (.map es2 c2) → (Instr.mapUpdate 53 (.map (some b)) (.int .i64 x) (.int .i64 y)).run Try.prog w = .ok () (setBlock w b (.map es2 c2)) →
      MapZ w2 b (fun z => if z = x then some y else f z) (if (f x).isSome then n else n + 1) := fun y es2 c2 w2 hy h2 hu => by
    obtain ⟨w', hr, hm, _⟩ := h.store hn hx hy
    rw [hu] at hr
    injection hr with _ hr
    subst hr
    refine hm.same ?_
    rw [h2, heap_setB_at _ _ hlt]
  rcases K.find w hkey es.toList F.keys with ⟨h1, h2⟩ | ⟨j, e0, h1, h2, h3⟩
  · have h1' : ∀ w2 : World, (Instr.findKey 3 (.int .i64 x) es.toList).run Try.prog w2 = .ok none w2 := fun w2 => by
      rcases K.find w2 hkey es.toList F.keys with ⟨g1, _⟩ | ⟨j, e0, _, g2, g3⟩
      · exact g1
      · exact absurd g3 (h2 e0 (List.mem_of_getElem? g2))
    refine ⟨.map es clock, .int .i64 0, clock, .map (es.push ⟨.int .i64 x, .int .i64 0, clock⟩) (clock + 1), hb, fun w2 hw2 => ?_, fun y hy => ?_⟩
    · simp [Instr.mapEntry, run_underlying ht, MapKept.run_getObj_map hw2, K.check w2 false hkey, h1', mzZero, MapKept.run_setObj_map _ hw2, Result.andThen, setBlock, goInt]
    · have hidx : (es.push ⟨.int .i64 x, .int .i64 0, clock⟩).findIdx? (fun e => ((e.born : Nat) : Int) == ((clock : Nat) : Int)) = some es.size := by
        rw [WideElems.findIdx_arr]
        refine WideElems.findIdx_born (l := (es.push ⟨.int .i64 x, .int .i64 0, clock⟩).toList) (j := es.size) (e0 := ⟨.int .i64 x, .int .i64 0, clock⟩) ?_ (by simp)
        rw [Array.toList_push, List.map_append]
        refine List.nodup_append.2 ⟨s2, by simp, ?_⟩
        intro a ha c hc e1
        obtain ⟨p, hp, rfl⟩ := List.mem_map.1 ha
        have := s1 p hp
        simp at hc
        omega
      have hmod : (es.push ⟨.int .i64 x, .int .i64 0, clock⟩).modify es.size (fun e => { e with val := .int .i64 y }) = es.push ⟨.int .i64 x, .int .i64 y, clock⟩ := by
        apply Array.ext'
        rw [Array.toList_modify, Array.toList_push, Array.toList_push, ← Array.length_toList, WideElems.modify_last]
      refine ⟨.map (es.push ⟨.int .i64 x, .int .i64 y, clock⟩) (clock + 1), fun w2 hw2 => ?_, fun w2 hw2 => fin y _ _ w2 hy hw2 ?_⟩
      · simp [Instr.entryStore, MapKept.run_getObj_map hw2, asInt, asIntOf, hidx, hmod, MapKept.run_setObj_map _ hw2, Result.andThen, setBlock]
      · simp [Instr.mapUpdate, run_underlying ht, MapKept.run_getObj_map hb, K.check w false hkey, h1, MapKept.run_setObj_map _ hb, Result.andThen, setBlock]
  · have hj : es[j]? = some e0 := by simpa using h2
    have h1' : ∀ w2 : World, (Instr.findKey 3 (.int .i64 x) es.toList).run Try.prog w2 = .ok (some (j, e0.val)) w2 := fun w2 => by
      rcases K.find w2 hkey es.toList F.keys with ⟨_, g2⟩ | ⟨j', e', g1, g2, g3⟩
      · exact absurd h3 (g2 e0 (List.mem_of_getElem? h2))
      · have hjl : j < es.toList.length := (List.getElem?_eq_some_iff.1 h2).1
        have : j = j' := (List.getElem?_inj (l := es.toList.map (·.key)) (by simpa using hjl) s3).1 (by simp only [List.getElem?_map, h2, g2, Option.map_some, h3, g3])
        subst this
        rw [h2] at g2
        injection g2 with g2
        subst g2
        exact g1
    have hsame : es.modify j (fun e => { e with key := .int .i64 x }) = es := by
      apply Array.ext'
      rw [Array.toList_modify, modify_eq_set _ _ _ _ h2]
      have : ({ e0 with key := .int .i64 x } : MapEntry) = e0 := by rw [← h3]
      rw [this]
      exact WideElems.set_self _ _ _ h2
    refine ⟨.map es clock, e0.val, e0.born, .map es clock, hb, fun w2 hw2 => ?_, fun y hy => ?_⟩
    · simp [Instr.mapEntry, run_underlying ht, MapKept.run_getObj_map hw2, K.check w2 false hkey, h1', hj, h3, K.stays w2 hkey, hsame, MapKept.run_setObj_map _ hw2, Result.andThen, setBlock, goInt]
    · have hidx : es.findIdx? (fun e => ((e.born : Nat) : Int) == ((e0.born : Nat) : Int)) = some j := by
        rw [WideElems.findIdx_arr]
        exact WideElems.findIdx_born s2 h2
      have hmod : es.modify j (fun e => { e with val := .int .i64 y }) = es.modify j (fun e' => { e' with key := .int .i64 x, val := .int .i64 y }) := by
        apply Array.ext'
        rw [Array.toList_modify, Array.toList_modify, modify_eq_set _ _ _ _ h2, modify_eq_set _ _ _ _ h2, ← h3]
      refine ⟨.map (es.modify j (fun e' => { e' with key := .int .i64 x, val := .int .i64 y })) clock, fun w2 hw2 => ?_, fun w2 hw2 => fin y _ _ w2 hy hw2 ?_⟩
      · simp [Instr.entryStore, MapKept.run_getObj_map hw2, asInt, asIntOf, hidx, hmod, MapKept.run_setObj_map _ hw2, Result.andThen, setBlock]
      · simp [Instr.mapUpdate, run_underlying ht, MapKept.run_getObj_map hb, K.check w false hkey, h1, hj, h3, K.stays w hkey, MapKept.run_setObj_map _ hb, Result.andThen, setBlock]

end Go.Proofs.Ytjdhcclhlpeipaa
