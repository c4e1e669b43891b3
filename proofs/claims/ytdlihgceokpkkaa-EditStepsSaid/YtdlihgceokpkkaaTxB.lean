/-
  Text: the runes of a text, as the program gathers them.
-/
import Derived.Test.YtdlihgceokpkkaaInfo
import Derived.Test.YtdlihgceokpkkaaRunes
import Derived.Lib.OthersKept
import Derived.WalkSmall
namespace Go.Proofs.Ytdlihgceokpkkaa
open Go.RowKit Utf


/-- What Runes answers: the runes in memory of its own; or nothing. -/
def RunesOut (B : Nat) (o : Option (List Nat)) (w : World) (e : Ending) (w' : World) : Prop :=
  ∃ v, e = .returned (.tuple #[v, .bool o.isSome]) ∧ w'.ownsRow B 21 1 v (intsOf o).length ((intsOf o).map (Value.int .i32)) ∧ Below w.heap.size w w'

theorem map_snoc (acc : List Nat) (d : Nat) : (acc.map (fun (r : Nat) => Value.int .i32 (r : Int))) ++ [Value.int .i32 (d : Int)] = (acc ++ [d]).map (fun (r : Nat) => Value.int .i32 (r : Int)) := by simp

theorem cell_new (w : World) (u : Value) (t : TypeId) : ∀ j x, [u][j]? = some x → (w.alloc (.cells #[u] t)).cell? ((⟨w.heap.size, 0, none⟩ : Addr).add j) = some x := by
  intro j x hj
  match j, hj with
  | 0, hj => simp at hj; subst hj; simp [Addr.add]
  | j + 1, hj => simp at hj

set_option maxHeartbeats 1000000 in
theorem runesP (s : ByteArray) (w : World) (hs : s.size ≤ 140737488351232) (hs4 : s.size * 4 ≤ 140737488351232) :
    Calls Try.prog 28 #[.string s] w (RunesOut w.heap.size (runes s.data.toList) w) := by
  obtain ⟨i0, hi, hz0, hz1, hz2⟩ := info_parts infoRune
  have HI := Lib.hid hi
  have HZ0 := Lib.hid hz0
  have HZ1 := Lib.hid hz1
  have HZ2 := Lib.hid hz2
  clear hi hz0 hz1 hz2
  go_enter Try.func28, Try.ntmps28
  go_wp2
  go_loopw [4, 6] (fun v _ wr => ∃ (pos : Nat) (acc : List Nat), wr.ownsRow (w.heap.size + 1) 21 1 v acc.length (acc.map (fun (r : Nat) => Value.int .i32 (r : Int))) ∧ runes s.data.toList = (left s.data.toList pos).map (acc ++ ·) ∧ acc.length ≤ pos ∧ pos ≤ s.size + 3 ∧
      wr.heap[w.heap.size]? = some (.stringIter s pos) ∧ Below w.heap.size w wr ∧ w.heap.size + 1 ≤ wr.heap.size) (fun _ _ wr => s.size - wr.iterPos w.heap.size)
  case atStart => exact ⟨0, [], World.ownsRow_nil _ _ _ _, by rw [left_start]; cases runes s.data.toList <;> rfl, by simp, Nat.zero_le _, World.iter_heap _ _ _, (Below.refl _ _).alloc (Nat.le_refl _) _, by simp [World.iter]⟩
  case round =>
    obtain ⟨pos, acc, hown, hr, ha, hpos, hit, hbel, hsz⟩ := hrel
    have HIT := Lib.hid hit
    by_cases hp : pos < s.size
    · have hnx : ∀ ty, (Instr.next (.pointer (some ⟨w.heap.size, 0, none⟩)) true ty).run Try.prog wr = _ := fun ty => Lib.run_next_any_at wr w.heap.size s pos ty hit hp
      have hst := left_step (l := s.data.toList) (pos := pos) hp
      rw [← decode_eq] at hst
      have hwd := dec_width (s.data.toList.drop pos)
      rw [← decode_eq] at hwd
      generalize hd : Utf8.decode s pos = d at *
      have HS := Lib.hid hst
      have HR := Lib.hid hr
      by_cases ho : d.1 = 65533
      · have hb : ((d.1 : Int) == 65533) = true := by simp; omega
        have HO := Lib.hid ho
        clear hst hr ho hd hit
        go_wp2
        go_ret2
        have e := left_odd HS.out HR.out HO.out
        exact ⟨.slice none 0 0, by rw [e]; rfl, by rw [e]; exact World.ownsRow_nil _ _ _ _, Lib.below_iterAt hbel (Nat.le_refl _) _ _⟩
      · have hb : ((d.1 : Int) == 65533) = false := by simp; omega
        have HO := Lib.hid ho
        have hown2 := ownsRow_iterAt hown (k := w.heap.size) (by omega) s (pos + d.2)
        have hit2 := Lib.hid (Lib.iterAt_heap wr w.heap.size s pos (pos + d.2) HIT.out)
        have hbel2 := Lib.below_iterAt hbel (Nat.le_refl _) s (pos + d.2)
        have hsz2 : w.heap.size + 1 ≤ (wr.iterAt w.heap.size s (pos + d.2)).heap.size := by rw [Lib.iterAt_size]; exact hsz
        clear hst hr ho hd hit hown hbel
        generalize hwn : wr.iterAt w.heap.size s (pos + d.2) = wn at *
        clear hwn
        go_wp2_with (at_builtin; refine wpList_append_own _ rfl (.tmp 14) (.tmp 16) 22 rfl (w.heap.size + 1) 21 i0 (.int .i32 0) 1 4 Try.underlying22 HI.out HZ0.out HZ1.out HZ2.out rfl (by decide) _ _ _ rfl (hown2.alloc _) ⟨wn.heap.size, 0, none⟩ 1 1 [.int .i32 d.1] rfl rfl (cell_new _ _ _) (by intro u hu; simp at hu; subst hu; rfl) (by unfold maxLen; omega) (by omega) (by simp; omega) ?_; intro v1 w1 hown3 hgrow _)
        rw [map_snoc] at hown3
        have hb3 : Below w.heap.size w w1 := (hbel2.alloc (by omega) _).grown hgrow (by simp; omega) (fun j hj => by have := (hown2.lt j hj).1; omega)
        have hi3 : w1.heap[w.heap.size]? = some (.stringIter s (pos + d.2)) := by
          rw [hgrow.block w.heap.size (by simp; omega) (fun e => by have := (hown2.lt _ e.symm).1; omega)]
          exact (Below.heap_alloc _ _ _ (by omega)).trans hit2.out
        have hs3 : w.heap.size + 1 ≤ w1.heap.size := by have := hgrow.size; simp at this; omega
        have HI3 := Lib.hid hi3
        clear hgrow hi3 hown2
        go_wp2
        go_roundw
        case rel => exact ⟨pos + d.2, acc ++ [d.1], by simpa using hown3, left_even HS.out HR.out HO.out, by simp; omega, by omega, HI3.out, hb3, hs3⟩
        case measure => rw [iterPos_of HI3.out, iterPos_of HIT.out]; omega
    · have hnx : ∀ ty, (Instr.next (.pointer (some ⟨w.heap.size, 0, none⟩)) true ty).run Try.prog wr = _ := fun ty => Lib.run_next_end_at wr w.heap.size s pos ty hit hp
      have HR := Lib.hid hr
      clear hr hit
      go_wp2
      go_ret2
      have e := left_done HR.out hp
      have h2 := ownsRow_base hown (show w.heap.size ≤ w.heap.size + 1 by omega)
      exact ⟨u4, by rw [e]; rfl, by rw [e]; simpa [intsOf, List.map_map, Function.comp_def] using h2, hbel⟩
end Go.Proofs.Ytdlihgceokpkkaa
