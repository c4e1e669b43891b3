/-
  Slices of integers that are read: what a value reads as in a world.
-/
import Derived.Test.YtphoijlpgplnkaaExt
import Derived.WalkSpells
import Derived.WalkLawsBesides
import Derived.Deep.QuietTactic
import Derived.IntWalk
import Derived.Lib.Hide
import Derived.Laws.AppendOwn
namespace Go.Proofs.Ytphoijlpgplnkaa
open Go.RowKit

theorem ret_int {k : IntKind} {a b : Int} (h : a = b) : Ending.returned (.int k a) = .returned (.int k b) := by rw [h]
theorem ret_bool {a b : Bool} (h : a = b) : Ending.returned (.bool a) = .returned (.bool b) := by rw [h]
theorem ret_str {a b : ByteArray} (h : a = b) : Ending.returned (.string a) = .returned (.string b) := by rw [h]

/-- The slice v reads as the integers xs. -/
def Reads (w : World) (k : IntKind) (v : Value) (xs : List Int) : Prop :=
  ∃ a cap, v = .slice a xs.length cap ∧ xs.length ≤ maxLen ∧ (xs.length ≤ cap ∧ (a = none → cap = 0)) ∧ ∀ i, i < xs.length → ∃ b off, a = some ⟨b, off, none⟩ ∧ b < w.heap.size ∧ w.cell? ⟨b, off + i, none⟩ = some (.int k (xs.getD i 0))

theorem Reads.below {w w' : World} {k : IntKind} {v : Value} {xs : List Int} (h : Reads w k v xs) (hb : Below w.heap.size w w') : Reads w' k v xs := by
  obtain ⟨a, cap, h1, h2, h3, h4⟩ := h
  refine ⟨a, cap, h1, h2, h3, fun i hi => ?_⟩
  obtain ⟨b, off, e, hlt, hc⟩ := h4 i hi
  exact ⟨b, off, e, Nat.lt_of_lt_of_le hlt hb.size, (hb.cell (p := ⟨b, off + i, none⟩) hlt).trans hc⟩

theorem Reads.ext {w : World} {k : IntKind} {v : Value} {xs : List Int} (h : Reads w k v xs) (x : World) : Reads (ext w x) k v xs := h.below (ext_below w x)

theorem Reads.drew {w : World} {k : IntKind} {v : Value} {xs : List Int} (h : Reads w k v xs) : Reads w.drew k v xs := h.below (Below.refl _ _).drew
theorem Reads.alloc {w : World} {k : IntKind} {v : Value} {xs : List Int} (h : Reads w k v xs) (o : Obj) : Reads (w.alloc o) k v xs := h.below ((Below.refl _ _).alloc (Nat.le_refl _) o)

theorem reads_nil (w : World) (k : IntKind) : Reads w k (.slice none 0 0) [] := ⟨none, 0, rfl, by decide, ⟨by decide, fun _ => rfl⟩, fun i hi => by simp at hi⟩

theorem owns_reads {w : World} {B : Nat} {e : TypeId} {k : IntKind} {v : Value} {xs : List Int} (h : w.ownsRow B e 1 v xs.length (xs.map (Value.int k))) : Reads w k v xs := by
  obtain ⟨_, h⟩ := h
  rcases h with ⟨rfl, h0⟩ | ⟨g, cap, cur, rfl, hB, hh, hn, hcap, hsz, ht⟩
  · have : xs = [] := List.length_eq_zero_iff.1 h0
    subst this
    exact reads_nil w k
  · refine ⟨_, cap, rfl, by omega, ⟨hn, fun h => by cases h⟩, fun i hi => ⟨g, 0, rfl, ?_, ?_⟩⟩
    · exact (Array.getElem?_eq_some_iff.1 hh).1
    · have h1 : (cur.toList.take (xs.length * 1))[i]? = (xs.map (Value.int k))[i]? := by rw [ht]
      rw [List.getElem?_take_of_lt (by omega)] at h1
      simp only [World.cell?, hh, Nat.zero_add]
      rw [Array.getElem?_toList] at h1
      simp [hi] at h1 ⊢
      exact h1

/-- A literal that has just been laid. -/
theorem reads_lit (w : World) (k : IntKind) (t : TypeId) (xs : List Int) (h : xs.length ≤ maxLen) (cs : Array Value) (hc : cs = (xs.map (Value.int k)).toArray) :
    Reads (w.alloc (.cells cs t)) k (.slice (some ⟨w.heap.size, 0, none⟩) xs.length xs.length) xs := by
  subst hc
  refine ⟨_, xs.length, rfl, h, ⟨Nat.le_refl _, fun h => by cases h⟩, fun i hi => ⟨w.heap.size, 0, rfl, by simp, ?_⟩⟩
  simp [hi]

theorem ownsRow_base {w : World} {B B' : Nat} {e : TypeId} {size : Nat} {v : Value} {n : Nat} {xs : List Value} (h : w.ownsRow B e size v n xs) (hB : B' ≤ B) : w.ownsRow B' e size v n xs := by
  obtain ⟨h1, h2⟩ := h
  refine ⟨h1, ?_⟩
  rcases h2 with h2 | ⟨g, cap, cur, a, b, c⟩
  · exact .inl h2
  · exact .inr ⟨g, cap, cur, a, by omega, c⟩

/-- What is owned stays owned where no block below the heap's size has turned. -/
theorem ownsRow_below {w w' : World} {B : Nat} {e : TypeId} {size : Nat} {v : Value} {n : Nat} {xs : List Value} (h : w.ownsRow B e size v n xs) (hb : Below w.heap.size w w') : w'.ownsRow B e size v n xs := by
  obtain ⟨h1, h2⟩ := h
  refine ⟨h1, ?_⟩
  rcases h2 with h2 | ⟨g, cap, cur, a, b, c, d⟩
  · exact .inl h2
  · exact .inr ⟨g, cap, cur, a, b, by rw [hb.block g (Array.getElem?_eq_some_iff.1 c).1]; exact c, d⟩

theorem reads_len {w : World} {k : IntKind} {v : Value} {xs : List Int} (h : Reads w k v xs) : ∃ a cap, v = .slice a xs.length cap ∧ xs.length ≤ maxLen ∧ xs.length ≤ cap := by
  obtain ⟨a, cap, h1, h2, h3, _⟩ := h
  exact ⟨a, cap, h1, h2, h3.1⟩

theorem Reads.slot {w : World} {k : IntKind} {a : Option Addr} {n c : Nat} {xs : List Int} (h : Reads w k (.slice a n c) xs) (i : Nat) (hi : i < xs.length) :
    ∃ b off, a = some ⟨b, off, none⟩ ∧ b < w.heap.size ∧ w.cell? ⟨b, off + i, none⟩ = some (.int k (xs.getD i 0)) := by
  obtain ⟨a', c', e, _, _, h4⟩ := h
  injection e with e1 _ _
  subst e1
  exact h4 i hi

theorem reads_take {w : World} {k : IntKind} {a : Option Addr} {cap : Nat} {xs : List Int} (h : Reads w k (.slice a xs.length cap) xs) (n : Nat) (hn : n ≤ xs.length) : Reads w k (.slice a n cap) (xs.take n) := by
  obtain ⟨a', cap', e, h2, h3, h4⟩ := h
  simp only [Value.slice.injEq, true_and] at e
  obtain ⟨rfl, rfl⟩ := e
  have hl : (xs.take n).length = n := by simp; omega
  refine ⟨a, cap, by rw [hl], by omega, ⟨by omega, h3.2⟩, fun i hi => ?_⟩
  rw [hl] at hi
  obtain ⟨b, off, e, hb, hc⟩ := h4 i (by omega)
  refine ⟨b, off, e, hb, ?_⟩
  rw [hc]
  simp [List.getD_eq_getElem?_getD, hi]

theorem reads_drop {w : World} {k : IntKind} {a : Option Addr} {cap : Nat} {xs : List Int} (h : Reads w k (.slice a xs.length cap) xs) (m : Nat) (hm : m ≤ xs.length) :
    Reads w k (.slice (if cap = m then a else a.map (fun x => x.add m)) (xs.length - m) (cap - m)) (xs.drop m) := by
  obtain ⟨a', cap', e, h2, h3, h4⟩ := h
  simp only [Value.slice.injEq, true_and] at e
  obtain ⟨rfl, rfl⟩ := e
  refine ⟨_, cap - m, by rw [List.length_drop], by simp; omega, ⟨by simp; omega, fun h => ?_⟩, fun i hi => ?_⟩
  · split at h
    · omega
    · rw [Option.map_eq_none_iff] at h
      have := h3.2 h
      omega
  · simp at hi
    obtain ⟨b, off, rfl, hlt, hc⟩ := h4 (m + i) (by omega)
    refine ⟨b, off + m, ?_, hlt, ?_⟩
    · rw [if_neg (by omega)]
      cases m <;> simp [Addr.add]
    · rw [show off + m + i = off + (m + i) by omega, hc]
      simp [List.getD_eq_getElem?_getD]

end Go.Proofs.Ytphoijlpgplnkaa
