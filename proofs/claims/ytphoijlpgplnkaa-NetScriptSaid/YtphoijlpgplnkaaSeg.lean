/-
  A slice that lies at any offset of a row of the call's own: reading, reslicing, append.
-/
import Derived.Test.YtphoijlpgplnkaaChg
import Derived.ArgAppend
import Derived.Laws.AppendOwn
namespace Go.Proofs.Ytphoijlpgplnkaa
open Go.RowKit

/-- What stands behind writing vs at o. -/
def overw (cur : Array Value) : Nat → List Value → Array Value
  | _, [] => cur
  | o, v :: r => overw (cur.setIfInBounds o v) (o + 1) r

theorem size_overw : ∀ (vs : List Value) (cur : Array Value) (o : Nat), (overw cur o vs).size = cur.size
  | [], _, _ => rfl
  | v :: r, cur, o => by rw [overw, size_overw]; simp

theorem get_overw : ∀ (vs : List Value) (cur : Array Value) (o i : Nat), o + vs.length ≤ cur.size → (overw cur o vs)[i]? = if o ≤ i ∧ i < o + vs.length then vs[i - o]? else cur[i]?
  | [], cur, o, i, _ => by simp [overw]; intro h1 h2; omega
  | v :: r, cur, o, i, h => by
    simp at h
    rw [overw, get_overw r _ _ _ (by simp; omega)]
    simp only [Array.getElem?_setIfInBounds, List.length_cons]
    by_cases h1 : i = o
    · subst h1
      rw [if_neg (by omega), if_pos rfl, if_pos (by omega), if_pos (by omega)]
      simp
    · by_cases h2 : o + 1 ≤ i ∧ i < o + 1 + r.length
      · rw [if_pos h2, if_pos (by omega)]
        obtain ⟨k, rfl⟩ : ∃ k, i = o + 1 + k := ⟨i - (o + 1), by omega⟩
        rw [show o + 1 + k - (o + 1) = k by omega, show o + 1 + k - o = k + 1 by omega]
        rfl
      · rw [if_neg h2, if_neg (fun e => h1 e.symm), if_neg (by omega)]

theorem heap_setCells_at : ∀ (vs : List Value) (w : World) (b o : Nat) (cur : Array Value) (t : TypeId) (fz : Nat × Nat), w.heap[b]? = some (.cells cur t fz) → (w.setCells b o vs).heap[b]? = some (.cells (overw cur o vs) t fz)
  | [], _, _, _, _, _, _, h => h
  | v :: r, w, b, o, cur, t, fz, h => by
    rw [World.setCells, overw]
    exact heap_setCells_at r _ b (o + 1) _ t fz (heap_setCell_at h v)

theorem chg_setCells : ∀ (vs : List Value) (w : World) (b o : Nat), Chg [b] w (w.setCells b o vs)
  | [], w, _, _ => Chg.refl _ w
  | v :: r, w, b, o => by
    rw [World.setCells]
    exact ((Chg.refl [b] w).setCell ⟨b, o, none⟩ (by simp) v).trans (chg_setCells r _ b (o + 1))

/-- The slice v of n elements, of sz cells each, reads as cs; it lies in block g (nothing: it is nil). -/
def Seg (w : World) (e sz : Nat) (g : Option Nat) (v : Value) (cs : List Value) (n : Nat) : Prop :=
  cs.length = n * sz ∧ ((g = none ∧ v = .slice none 0 0 ∧ n = 0) ∨
    ∃ b off cap cur, g = some b ∧ v = .slice (some ⟨b, off, none⟩) n cap ∧ w.heap[b]? = some (.cells cur e (0, 0)) ∧ n ≤ cap ∧ cap ≤ maxLen ∧ off + cap * sz ≤ cur.size ∧ ∀ j, j < n * sz → cur[off + j]? = cs[j]?)

variable {w : World} {e sz : Nat} {g : Option Nat} {v : Value} {cs : List Value} {n : Nat}

theorem Seg.nil (w : World) (e sz : Nat) : Seg w e sz none (.slice none 0 0) [] 0 := ⟨by simp, .inl ⟨rfl, rfl, rfl⟩⟩

theorem Seg.lt (h : Seg w e sz g v cs n) : ∀ b, g = some b → b < w.heap.size := by
  rintro b rfl
  obtain ⟨_, ⟨h, _⟩ | ⟨b', off, cap, cur, hg, _, hh, _⟩⟩ := h
  · cases h
  · cases hg
    exact lt_of_block hh

theorem Seg.chg {w' : World} {S : List Nat} (h : Seg w e sz g v cs n) (hc : Chg S w w') (hg : ∀ b, g = some b → b ∉ S) : Seg w' e sz g v cs n := by
  obtain ⟨hl, h | ⟨b, off, cap, cur, rfl, hv, hh, r⟩⟩ := h
  · exact ⟨hl, .inl h⟩
  · exact ⟨hl, .inr ⟨b, off, cap, cur, rfl, hv, hc.at hh (hg b rfl), r⟩⟩

theorem Seg.of_owns {B : Nat} (h : w.ownsRow B e sz v n cs) : ∃ g, Seg w e sz g v cs n ∧ ∀ b, g = some b → B ≤ b := by
  obtain ⟨hl, ⟨rfl, rfl⟩ | ⟨b, cap, cur, rfl, hB, hh, h1, h2, h3, h4⟩⟩ := h
  · have : cs = [] := List.length_eq_zero_iff.1 (by omega)
    subst this
    exact ⟨none, Seg.nil _ _ _, fun b hb => by cases hb⟩
  · refine ⟨some b, ⟨hl, .inr ⟨b, 0, cap, cur, rfl, rfl, hh, h1, h2, by omega, fun j hj => ?_⟩⟩, fun b' hb' => by cases hb'; exact hB⟩
    rw [Nat.zero_add, ← h4, List.getElem?_take_of_lt hj, Array.getElem?_toList]

theorem Seg.len (h : Seg w e sz g v cs n) : ∃ a cap, v = .slice a n cap ∧ n ≤ cap ∧ n ≤ maxLen := by
  obtain ⟨_, ⟨_, rfl, rfl⟩ | ⟨b, off, cap, cur, _, rfl, _, h1, h2, _⟩⟩ := h
  · exact ⟨none, 0, rfl, Nat.le_refl _, Nat.zero_le _⟩
  · exact ⟨_, cap, rfl, h1, by omega⟩

/-- The cells of an element that is there. -/
theorem Seg.cell (h : Seg w e sz g v cs n) (hs : 0 < sz) (i : Nat) (hi : i < n) : ∃ b off cap, g = some b ∧ v = .slice (some ⟨b, off, none⟩) n cap ∧ b < w.heap.size ∧
    ∀ j u, j < sz → cs[i * sz + j]? = some u → w.cell? ⟨b, off + i * sz + j, none⟩ = some u ∧ w.frozen? ⟨b, off + i * sz + j, none⟩ = false := by
  obtain ⟨_, ⟨_, rfl, rfl⟩ | ⟨b, off, cap, cur, rfl, rfl, hh, h1, h2, h3, h4⟩⟩ := h
  · omega
  · refine ⟨b, off, cap, rfl, rfl, lt_of_block hh, fun j u hj hu => ⟨?_, ?_⟩⟩
    · have hlt : i * sz + j < n * sz := by
        have : (i + 1) * sz ≤ n * sz := Nat.mul_le_mul_right _ hi
        rw [Nat.add_mul] at this
        omega
      simp only [World.cell?, hh]
      rw [Nat.add_assoc, h4 _ hlt, hu]
      rfl
    · simp [World.frozen?, hh]

theorem Seg.append {P : Program} (h : Seg w e sz g v cs n) (t : TypeId) (i : TypeInfo) (z : Value) (bytes : Nat) (ht : P.underlying t = some (.slice e)) (hi : P.info? e = some i) (hz : i.zero = some z) (hsize : i.size = sz) (hby : i.bytes = bytes)
    (hzs : z.cells.size = sz) (hsz : 0 < sz) (a : Addr) (m c : Nat) (hm : 0 < m) (news : List Value) (hl : news.length = m * sz) (hnews : ∀ j u, news[j]? = some u → w.cell? (a.add j) = some u) (h1 : ∀ u ∈ news, u.oneCell' = true)
    (h63 : n + m ≤ maxLen) (hbytes : (n + m) * bytes ≤ 140737488355328) :
    ∃ v' w' g', (∀ ty, (Builtin.append_ #[t, t] ty #[v, .slice (some a) m c]).run P w = .ok v' w') ∧ Seg w' e sz g' v' (cs ++ news) (n + m) ∧ Chg g.toList w w' ∧ (g' = g ∨ ∃ b, g' = some b ∧ w.heap.size ≤ b) ∧ g'.isSome := by
  have hlen : (cs ++ news).length = (n + m) * sz := by rw [List.length_append, h.1, hl, Nat.add_mul]
  obtain ⟨hcl, ⟨rfl, rfl, rfl⟩ | ⟨b, off, cap, cur, rfl, rfl, hh, h2, h3, h4, h5⟩⟩ := h
  · have hcs : cs = [] := List.length_eq_zero_iff.1 (by omega)
    subst hcs
    obtain ⟨v', w', hr, ho, hg, hn⟩ := run_append_own (P := P) (w := w) w.heap.size t 0 e i z sz bytes ht hi hz hsize hby hzs hsz (.slice none 0 0) 0 [] (World.ownsRow_nil _ _ _ _) a m c news hl hnews h1 h63 hbytes (Nat.le_refl _)
    obtain ⟨g', hs, hB⟩ := Seg.of_owns ho
    have hc : Chg [] w w' := ⟨hg.os, hg.tape, hg.output, hg.size, fun k hk _ => hg.block k hk (by simp [Value.ownBlock])⟩
    refine ⟨v', w', g', fun _ => hr, hs, hc, ?_, ?_⟩
    · cases g' with
      | none => exact .inl rfl
      | some b => exact .inr ⟨b, rfl, hB b rfl⟩
    · cases g' with
      | none =>
        obtain ⟨_, ⟨_, _, h0⟩ | ⟨b, off, cap, cur, hx, _⟩⟩ := hs
        · omega
        · cases hx
      | some b => rfl
  · by_cases hroom : n + m ≤ cap
    · have hms : n * sz + m * sz ≤ cap * sz := by rw [← Nat.add_mul]; exact Nat.mul_le_mul_right _ hroom
      refine ⟨_, _, some b, fun ty => run_append_room_cells (P := P) w t ty e i ht hi b off n cap a m c news (by rw [hsize]; exact hl) hnews h1 hroom (fun j hj => ?_) (fun j hj => ?_), ⟨hlen, .inr ⟨b, off, cap, overw cur (off + n * i.size) news, rfl, rfl, heap_setCells_at _ _ _ _ _ _ _ hh, hroom, h3, ?_, fun j hj => ?_⟩⟩, chg_setCells _ _ _ _, .inl rfl, rfl⟩
      · rw [hsize]
        simp only [World.cell?, hh]
        rw [Array.getElem?_eq_getElem (by omega)]
        rfl
      · simp [World.frozen?, hh]
      · rw [size_overw]; exact h4
      · rw [get_overw _ _ _ _ (by rw [hsize]; omega), hsize]
        by_cases hj2 : j < n * sz
        · rw [if_neg (by omega), h5 j hj2, List.getElem?_append_left (by omega)]
        · rw [Nat.add_mul] at hj
          rw [if_pos (by omega), List.getElem?_append_right (by omega), hcl]
          congr 1
          omega
    · have holds : ∀ j u, cs[j]? = some u → w.cell? ((⟨b, off, none⟩ : Addr).add j) = some u := fun j u hu => by
        have hj : j < n * sz := by rw [← hcl]; exact (List.getElem?_eq_some_iff.1 hu).1
        have e : (⟨b, off, none⟩ : Addr).add j = ⟨b, off + j, none⟩ := by cases j <;> simp [Addr.add]
        rw [e]
        simp only [World.cell?, hh]
        rw [h5 j hj, hu]
        rfl
      obtain ⟨v', w', hr, ho, hg⟩ := run_append_arg_grows (P := P) w t 0 e i z sz bytes ht hi hz hsize hby hzs hsz ⟨b, off, none⟩ n cap cs hcl holds a m c news hl hnews (by omega) h63 hbytes
      obtain ⟨g', hs, hB⟩ := Seg.of_owns ho
      have hc : Chg [b] w w' := ⟨hg.os, hg.tape, hg.output, hg.size, fun k hk _ => hg.block k hk (by simp)⟩
      refine ⟨v', w', g', fun _ => hr, hs, hc, ?_, ?_⟩
      · cases g' with
          | none =>
            obtain ⟨_, ⟨_, _, h0⟩ | ⟨b, off, cap, cur, hx, _⟩⟩ := hs
            · omega
            · cases hx
          | some b' => exact .inr ⟨b', rfl, hB b' rfl⟩
      · cases g' with
          | none =>
            obtain ⟨_, ⟨_, _, h0⟩ | ⟨b, off, cap, cur, hx, _⟩⟩ := hs
            · omega
            · cases hx
          | some b => rfl

theorem Seg.tail {gb off cap : Nat} {x : List Value} (h : Seg w e sz (some gb) (.slice (some ⟨gb, off, none⟩) (n + 1) cap) (x ++ cs) (n + 1)) (hx : x.length = sz) :
    Seg w e sz (some gb) (.slice (if cap = 1 then some ⟨gb, off, none⟩ else some ⟨gb, off + sz, none⟩) n (cap - 1)) cs n := by
  obtain ⟨hl, ⟨h0, _⟩ | ⟨b, off', cap', cur, e1, e2, hh, h1, h2, h3, h4⟩⟩ := h
  · cases h0
  · simp only [Option.some.injEq] at e1
    subst e1
    simp only [Value.slice.injEq, Option.some.injEq, Addr.mk.injEq, and_true, true_and] at e2
    obtain ⟨rfl, rfl⟩ := e2
    have hm : (n + 1) * sz = n * sz + sz := by rw [Nat.add_mul]; omega
    have hcl : cs.length = n * sz := by rw [List.length_append, hx, hm] at hl; omega
    have hcap : cap * sz = (cap - 1) * sz + sz := by
      obtain ⟨c, rfl⟩ : ∃ c, cap = c + 1 := ⟨cap - 1, by omega⟩
      rw [Nat.add_sub_cancel, Nat.add_mul]; omega
    refine ⟨hcl, .inr ?_⟩
    by_cases hc : cap = 1
    · have hn : n = 0 := by omega
      subst hn
      exact ⟨gb, off, cap - 1, cur, rfl, by rw [if_pos hc], hh, by omega, by omega, by subst hc; simp; omega, fun j hj => by omega⟩
    · refine ⟨gb, off + sz, cap - 1, cur, rfl, by rw [if_neg hc], hh, by omega, by omega, by omega, fun j hj => ?_⟩
      have := h4 (sz + j) (by omega)
      rw [← Nat.add_assoc] at this
      rw [this, List.getElem?_append_right (by omega), hx]
      congr 1
      omega

end Go.Proofs.Ytphoijlpgplnkaa
