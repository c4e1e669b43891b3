/-
  The net: what it holds in memory.
-/
import Derived.Test.YtphoijlpgplnkaaAppR
import Derived.Test.YtphoijlpgplnkaaSeg
import Derived.BigRegion
import Derived.Deep.RegionHeld3
import Derived.Deep.RegionLaw
import Derived.Laws.OwnMore
namespace Go.Proofs.Ytphoijlpgplnkaa
open Go.RowKit Go.ChangeMaps

structure GV where
  id : Int
  frm : Int
  to : Int
  fr : List Int
  sp : Bool
deriving DecidableEq, Inhabited

/-- A datagram in memory: its frame is a slice of a row of its own. -/
structure GM where
  g : GV
  fv : Value
  fb : Option Nat

def GM.cells (m : GM) : List Value := [.int .i64 m.g.id, .int .i64 m.g.frm, .int .i64 m.g.to, m.fv, .bool m.g.sp]
def gmC (Ms : List GM) : List Value := Ms.flatMap GM.cells
def byC (bs : List Int) : List Value := bs.map (Value.int .u8)
instance : Inhabited GM := ⟨⟨default, .slice none 0 0, none⟩⟩

theorem gmC_len (Ms : List GM) : (gmC Ms).length = Ms.length * 5 := by
  induction Ms with
  | nil => rfl
  | cons a l ih => simp only [gmC, List.flatMap_cons] at *; simp [ih, GM.cells]; omega

theorem gmC_app (Ms : List GM) (m : GM) : gmC (Ms ++ [m]) = gmC Ms ++ m.cells := by simp [gmC]

theorem gmC_get (Ms : List GM) (i j : Nat) (h : i < Ms.length) (hj : j < 5) : (gmC Ms)[i * 5 + j]? = (Ms.getD i default).cells[j]? := by
  induction Ms generalizing i with
  | nil => simp at h
  | cons a l ih =>
    have e : gmC (a :: l) = a.cells ++ gmC l := by simp [gmC]
    have hl : a.cells.length = 5 := rfl
    cases i with
    | zero =>
      rw [e, Nat.zero_mul, Nat.zero_add, List.getElem?_append_left (by omega)]
      rfl
    | succ i =>
      have := ih i (by simpa using h)
      rw [e, List.getElem?_append_right (by omega), hl, show (i + 1) * 5 + j - 5 = i * 5 + j by omega, this]
      rfl

/-- The blocks of the net. -/
def ownN (p : Nat) (g : Option Nat) (Ms : List GM) : List Nat := p :: (g.toList ++ Ms.filterMap GM.fb)

structure NAt (w : World) (p : Nat) (g : Option Nat) (v : Value) (most next : Int) (Ms : List GM) : Prop where
  c : w.heap[p]? = some (.cells #[.int .i64 most, .int .i64 next, v] 63 (0, 0))
  s : Seg w 31 5 g v (gmC Ms) Ms.length
  f : ∀ m ∈ Ms, Seg w 5 1 m.fb m.fv (byC m.g.fr) m.g.fr.length
  d : (ownN p g Ms).Nodup
  m1 : 1 ≤ most
  m2 : most ≤ 64
  n1 : 0 ≤ next
  n2 : next ≤ 1000
  l : (Ms.length : Int) ≤ most

def Kept (F : List Nat) (w w' : World) : Prop := ∀ x ∈ F, w'.heap[x]? = w.heap[x]?

theorem Kept.trans {F : List Nat} {w w' w'' : World} (h : Kept F w w') (h' : Kept F w' w'') : Kept F w w'' := fun x hx => (h' x hx).trans (h x hx)
theorem Kept.mono {F F' : List Nat} {w w' : World} (h : Kept F w w') (hF : ∀ x ∈ F', x ∈ F) : Kept F' w w' := fun x hx => h x (hF x hx)
theorem Kept.of_chg {F S : List Nat} {w w' : World} (h : Chg S w w') (h1 : ∀ x ∈ F, x < w.heap.size) (h2 : ∀ x ∈ F, x ∉ S) : Kept F w w' := fun x hx => h.block x (h1 x hx) (h2 x hx)

theorem Seg.kept {w w' : World} {e sz : Nat} {g : Option Nat} {v : Value} {cs : List Value} {n : Nat} (h : Seg w e sz g v cs n) (hc : Kept g.toList w w') : Seg w' e sz g v cs n := by
  obtain ⟨hl, h | ⟨b, off, cap, cur, rfl, hv, hh, r⟩⟩ := h
  · exact ⟨hl, .inl h⟩
  · exact ⟨hl, .inr ⟨b, off, cap, cur, rfl, hv, (hc b (by simp)).trans hh, r⟩⟩

theorem NAt.kept {w w' : World} {p : Nat} {g : Option Nat} {v : Value} {most next : Int} {Ms : List GM} (h : NAt w p g v most next Ms) (hk : Kept (ownN p g Ms) w w') : NAt w' p g v most next Ms :=
  ⟨(hk p (by simp [ownN])).trans h.c, h.s.kept (hk.mono fun x hx => by simp [ownN] at hx ⊢; simp [hx]), fun m hm => (h.f m hm).kept (hk.mono fun x hx => by
    have hx' : m.fb = some x := by simpa using hx
    simp only [ownN, List.mem_cons, List.mem_append, List.mem_filterMap]
    exact .inr (.inr ⟨m, hm, hx'⟩)), h.d, h.m1, h.m2, h.n1, h.n2, h.l⟩

theorem NAt.lt {w : World} {p : Nat} {g : Option Nat} {v : Value} {most next : Int} {Ms : List GM} (h : NAt w p g v most next Ms) : ∀ x ∈ ownN p g Ms, x < w.heap.size := by
  intro x hx
  simp only [ownN, List.mem_cons, List.mem_append, List.mem_filterMap, Option.mem_toList] at hx
  rcases hx with rfl | hx | ⟨m, hm, hx⟩
  · exact lt_of_block h.c
  · exact h.s.lt x hx
  · exact (h.f m hm).lt x hx

/-- The net, all of it from block B on; the blocks of F are others'. -/
def NF (B : Nat) (F : List Nat) (w : World) (p : Nat) (most next : Int) (L : List GV) : Prop :=
  ∃ g v Ms, NAt w p g v most next Ms ∧ Ms.map GM.g = L ∧ (∀ x ∈ ownN p g Ms, B ≤ x) ∧ B ≤ w.heap.size ∧ ∀ x ∈ F, x < w.heap.size ∧ x ∉ ownN p g Ms

theorem NF.size {B : Nat} {F : List Nat} {w : World} {p : Nat} {most next : Int} {L : List GV} (h : NF B F w p most next L) : B ≤ w.heap.size := by
  obtain ⟨g, v, Ms, _, _, _, h, _⟩ := h
  exact h

theorem NF.len {B : Nat} {F : List Nat} {w : World} {p : Nat} {most next : Int} {L : List GV} (h : NF B F w p most next L) : 1 ≤ most ∧ most ≤ 64 ∧ 0 ≤ next ∧ next ≤ 1000 ∧ (L.length : Int) ≤ most := by
  obtain ⟨g, v, Ms, h, rfl, _⟩ := h
  exact ⟨h.m1, h.m2, h.n1, h.n2, by simpa using h.l⟩

theorem NF.mono {B : Nat} {F F' : List Nat} {w : World} {p : Nat} {most next : Int} {L : List GV} (h : NF B F w p most next L) (hF : ∀ x ∈ F', x ∈ F) : NF B F' w p most next L := by
  obtain ⟨g, v, Ms, h1, h2, h3, h4, h5⟩ := h
  exact ⟨g, v, Ms, h1, h2, h3, h4, fun x hx => h5 x (hF x hx)⟩

/-- Others' blocks turn, and new ones come. -/
theorem NF.chg {B : Nat} {F : List Nat} {w w' : World} {p : Nat} {most next : Int} {L : List GV} (h : NF B F w p most next L) (hc : Chg F w w') : NF B F w' p most next L := by
  obtain ⟨g, v, Ms, h1, h2, h3, h4, h5⟩ := h
  exact ⟨g, v, Ms, h1.kept (Kept.of_chg hc h1.lt fun x hx e => (h5 x e).2 hx), h2, h3, Nat.le_trans h4 hc.size, fun x hx => ⟨Nat.lt_of_lt_of_le (h5 x hx).1 hc.size, (h5 x hx).2⟩⟩

theorem NF.add {B : Nat} {F : List Nat} {w w' : World} {p x : Nat} {most next : Int} {L : List GV} (h : NF B F w p most next L) (hc : Chg F w w') (hx : w.heap.size ≤ x) (hx2 : x < w'.heap.size) : NF B (x :: F) w' p most next L := by
  obtain ⟨g, v, Ms, h1, h2, h3, h4, h5⟩ := h
  refine ⟨g, v, Ms, h1.kept (Kept.of_chg hc h1.lt fun x hx e => (h5 x e).2 hx), h2, h3, Nat.le_trans h4 hc.size, fun y hy => ?_⟩
  rcases List.mem_cons.1 hy with rfl | hy
  · exact ⟨hx2, fun e => by have := h1.lt y e; omega⟩
  · exact ⟨Nat.lt_of_lt_of_le (h5 y hy).1 hc.size, (h5 y hy).2⟩

end Go.Proofs.Ytphoijlpgplnkaa
