/-
  Chapter 1: the reference's runes: the walk.
-/
import Derived.Test.YtjdhcclhlpeipaaRefRunes
namespace Go.Proofs.Ytjdhcclhlpeipaa
open Go.RowKit Utf

instance (p : Int × Int) : Decidable (bad p) := by unfold bad; exact inferInstance

set_option maxRecDepth 100000 in
set_option maxHeartbeats 4000000 in
theorem runesR (s : ByteArray) (w : World) (hs : s.size ≤ 140737488351232) (hs4 : s.size * 4 ≤ 140737488351232) :
    Calls Try.prog 29 #[.string s] w (RunesOut w.heap.size (runes s.data.toList) w) := by
  obtain ⟨i0, hi, hz0, hz1, hz2⟩ := info_parts infoRune
  have HI := Lib.hid hi
  have HZ0 := Lib.hid hz0
  have HZ1 := Lib.hid hz1
  have HZ2 := Lib.hid hz2
  clear hi hz0 hz1 hz2
  go_enter Try.func29, Try.ntmps29
  go_wp2
  go_loopw [4, 5, 6, 7] (fun v i _ _ wr => ∃ (pos : Nat) (acc : List Nat), i = .int .i64 pos ∧ wr.ownsRow w.heap.size 21 1 v acc.length (acc.map (fun (r : Nat) => Value.int .i32 (r : Int))) ∧ runes s.data.toList = (left s.data.toList pos).map (acc ++ ·) ∧ acc.length ≤ pos ∧ pos ≤ s.size + 3 ∧
      Below w.heap.size w wr) (fun _ i _ _ _ => s.size - (intOf i).toNat)
  case atStart => exact ⟨0, [], rfl, World.ownsRow_nil _ _ _ _, by rw [left_start]; cases runes s.data.toList <;> rfl, by simp, Nat.zero_le _, Below.refl _ _⟩
  case round =>
    obtain ⟨pos, acc, rfl, hown, hr, ha, hpos, hbel⟩ := hrel
    have HR := Lib.hid hr
    clear hr
    by_cases hp : pos < s.size
    · have hst := left_step (l := s.data.toList) (pos := pos) hp
      have hwd := dec_width (s.data.toList.drop pos)
      have hod := one_dec s.data.toList pos
      have hone := oneC s pos
      generalize dec (s.data.toList.drop pos) = d at *
      generalize oneV s.data.toList pos = q at *
      obtain ⟨qr, qn⟩ := q
      simp only at hone
      have HS := Lib.hid hst
      clear hst
      by_cases hbad : bad (qr, qn)
      · have ho := hod.1 hbad
        have e := left_odd HS.out HR.out ho
        have E := Lib.hid e
        clear ho e hod hwd
        have hgc : ∀ w, _ := fun w => goodC qr w
        by_cases c1 : qn = 0
        · have c1' : (qn == 0) = true := by simp [c1]
          subst c1
          clear hbad
          go_wp2_with (first
            | (go_at_call 30; refine calls_same (hone _ hs hp) ?_)
            | (go_at_call 31; refine calls_same (hgc _) ?_))
          go_ret2
          exact ⟨.slice none 0 0, by rw [E.out]; rfl, by rw [E.out]; exact World.ownsRow_nil _ _ _ _, hbel⟩
        · have c1' : (qn == 0) = false := by simp [c1]
          cases hg : goodI qr with
          | false =>
            have H1 := Lib.hid c1
            clear hbad c1
            go_wp2_with (first
              | (go_at_call 30; refine calls_same (hone _ hs hp) ?_)
              | (go_at_call 31; refine calls_same (hgc _) ?_))
            go_ret2
            exact ⟨.slice none 0 0, by rw [E.out]; rfl, by rw [E.out]; exact World.ownsRow_nil _ _ _ _, hbel⟩
          | true =>
            have hb2 : (qn = 3 ∧ qr < 2048) ∨ (qn = 4 ∧ qr < 65536) := by
              rcases hbad with h | h | h | h
              · exact absurd h c1
              · simp only at h; rw [hg] at h; cases h
              · exact .inl h
              · exact .inr h
            clear hbad c1 c1'
            rcases hb2 with ⟨rfl, hlt⟩ | ⟨rfl, hlt⟩
            · go_wp2_with (first
                | (go_at_call 30; refine calls_same (hone _ hs hp) ?_)
                | (go_at_call 31; refine calls_same (hgc _) ?_))
              go_ret2
              exact ⟨.slice none 0 0, by rw [E.out]; rfl, by rw [E.out]; exact World.ownsRow_nil _ _ _ _, hbel⟩
            · go_wp2_with (first
                | (go_at_call 30; refine calls_same (hone _ hs hp) ?_)
                | (go_at_call 31; refine calls_same (hgc _) ?_))
              go_ret2
              exact ⟨.slice none 0 0, by rw [E.out]; rfl, by rw [E.out]; exact World.ownsRow_nil _ _ _ _, hbel⟩
      · obtain ⟨ho, heq⟩ := hod.2 hbad
        have hn0 : qn ≠ 0 := fun h => hbad (.inl h)
        have hg : goodI qr = true := by
          cases hg : goodI qr with
          | true => rfl
          | false => exact absurd (.inr (.inl hg)) hbad
        have h3 : qn = 3 → 2048 ≤ qr := fun h => Int.not_lt.1 fun h' => hbad (.inr (.inr (.inl ⟨h, h'⟩)))
        have h4 : qn = 4 → 65536 ≤ qr := fun h => Int.not_lt.1 fun h' => hbad (.inr (.inr (.inr ⟨h, h'⟩)))
        simp only [Prod.mk.injEq] at heq
        obtain ⟨rfl, rfl⟩ := heq
        have e := left_even HS.out HR.out ho
        have E := Lib.hid e
        have hgc : ∀ w, _ := fun w => goodC (d.1 : Int) w
        clear ho e hod hbad hn0
        obtain ⟨d1, d2⟩ := d
        simp only at hwd hone hg h3 h4 HS E hgc
        generalize hx : (d1 : Int) = x at hone hg h3 h4 hgc
        have HX := Lib.hid hx
        clear hx
        rcases (by omega : d2 = 1 ∨ d2 = 2 ∨ d2 = 3 ∨ d2 = 4) with rfl | rfl | rfl | rfl
        all_goals
          first
            | (have k3 := h3 rfl; clear h3 h4)
            | (have k4 := h4 rfl; clear h3 h4)
            | clear h3 h4
          go_wp2_with (first
            | (go_at_call 30; refine calls_same (hone _ hs hp) ?_)
            | (go_at_call 31; refine calls_same (hgc _) ?_)
            | (at_builtin; refine wpList_append_own _ rfl (.tmp 41) (.tmp 43) 58 rfl w.heap.size 21 i0 (.int .i32 0) 1 4 Try.underlying58 HI.out HZ0.out HZ1.out HZ2.out rfl (by decide) _ _ _ rfl (hown.alloc _) ⟨wr.heap.size, 0, none⟩ 1 1 [.int .i32 x] rfl rfl (cell_new _ _ _) (by intro u hu; simp at hu; subst hu; rfl) (by unfold maxLen; omega) (by omega) (by have := hbel.size; simp; omega) ?_; intro v1 w1 hown3 hgrow _))
          rw [← HX.out, map_snoc] at hown3
          have hb3 : Below w.heap.size w w1 := (hbel.alloc hbel.size _).grown hgrow (by have := hbel.size; simp; omega) (fun j hj => (hown.lt j hj).1)
          clear hgrow
          go_wp2
          go_roundw
          case rel => exact ⟨_, acc ++ [d1], by go_num, by simpa using hown3, E.out, by simp; omega, by omega, hb3⟩
          case measure => simp [intOf]; omega
    · have e := left_done HR.out hp
      have E := Lib.hid e
      clear e
      go_wp2
      go_ret2
      exact ⟨u4, by rw [E.out]; rfl, by rw [E.out]; simpa [intsOf, List.map_map, Function.comp_def] using hown, hbel⟩
end Go.Proofs.Ytjdhcclhlpeipaa
