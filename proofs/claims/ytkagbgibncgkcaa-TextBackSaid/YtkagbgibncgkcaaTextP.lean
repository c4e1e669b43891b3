/-
  Chapter 1: the program's text of runes.
-/
import Derived.Test.YtkagbgibncgkcaaRefText
import Derived.Laws.Cover4
namespace Go.Proofs.Ytkagbgibncgkcaa
open Go.RowKit Utf

theorem add_at (b off j : Nat) : (⟨b, off, none⟩ : Addr).add j = ⟨b, off + j, none⟩ := by cases j <;> simp [Addr.add]

theorem encode_good {r : Int} (h : goodI r = true) : Utf8.encode r = ⟨(enc r.toNat).toArray⟩ := by
  have hg := (good_iff r).1 h
  have hv : Utf8.valid r = true := by simp [Utf8.valid]; omega
  unfold Utf8.encode enc
  rw [if_pos hv]
  dsimp only
  repeat' split
  all_goals rfl

theorem runes_bytes (xs : List Int) (h : ∀ r ∈ xs, goodI r = true) : ∀ p : ByteArray, xs.foldl (fun r n => r ++ Utf8.encode n) p = p ++ ⟨(xs.flatMap (fun r => enc r.toNat)).toArray⟩ := by
  induction xs with
  | nil => intro p; apply ByteArray.ext; simp
  | cons x xs ih =>
    intro p
    rw [List.foldl_cons, ih (fun r hr => h r (List.mem_cons_of_mem _ hr)), encode_good (h x (List.mem_cons_self ..)), List.flatMap_cons]
    apply ByteArray.ext
    simp

theorem runes_str (xs : List Int) (h : ∀ r ∈ xs, goodI r = true) : runesBytes xs = ⟨(xs.flatMap (fun r => enc r.toNat)).toArray⟩ := by
  unfold runesBytes
  rw [runes_bytes xs h]
  apply ByteArray.ext
  simp

theorem all_mem {xs : List Int} (h : ∀ j, j < xs.length → goodI (xs.getD j 0) = true) : ∀ r ∈ xs, goodI r = true := by
  intro r hr
  obtain ⟨i, hi, rfl⟩ := List.getElem_of_mem hr
  have := h i hi
  rwa [List.getD_eq_getElem?_getD, List.getElem?_eq_getElem hi] at this

set_option maxRecDepth 100000 in
set_option maxHeartbeats 2000000 in
theorem textP (v : Value) (xs : List Int) (w : World) (h1 : Reads w .i32 v xs) (hn : xs.length ≤ 1000000) :
    Calls Try.prog 27 #[v] w fun e w' => e = .returned (.tuple #[.string ⟨(textI xs).1.toArray⟩, .bool (textI xs).2]) ∧ Below w.heap.size w w' := by
  obtain ⟨a1, c1, rfl, m1, ⟨_, hcap⟩, r1⟩ := h1
  have HCAP := Lib.hid hcap
  clear hcap
  unfold maxLen at m1
  go_enter Try.func27, Try.ntmps27
  go_wp2
  go_loopw [5, 8] (fun _ i wr => ∃ k : Nat, k ≤ xs.length ∧ i = .int .i64 k ∧ (∀ j, j < k → goodI (xs.getD j 0) = true) ∧ Below w.heap.size w wr) (fun _ i _ => xs.length - (intOf i).toNat)
  case atStart => exact ⟨0, Nat.zero_le _, rfl, fun j hj => absurd hj (Nat.not_lt_zero j), Below.refl _ _⟩
  case round =>
    obtain ⟨k, hk, rfl, hg, hbel⟩ := hrel
    have HG := Lib.hid hg
    clear hg
    by_cases hlt : k < xs.length
    · obtain ⟨b1, o1, rfl, hb1, hc1⟩ := r1 k hlt
      rw [← hbel.cell (p := ⟨b1, o1 + k, none⟩) hb1] at hc1
      have q1 : (0 : Int) ≤ (k : Int) := by omega
      have q2 : (k : Int) < (xs.length : Int) := by omega
      have htb := fun (hb : goodI (xs.getD k 0) = false) => text_bad hlt hb
      generalize hx : xs.getD k 0 = x at hc1 htb
      have HX := Lib.hid hx
      have HTB := Lib.hid htb
      have hgi := good_iff x
      have HGI := Lib.hid hgi
      clear r1 hx htb hgi
      rcases (by omega : x < 0 ∨ 1114111 < x ∨ (55296 ≤ x ∧ x ≤ 57343) ∨ x = 65533 ∨ (0 ≤ x ∧ x < 55296) ∨ (57343 < x ∧ x ≤ 1114111 ∧ x ≠ 65533)) with c | c | c | c | c | c
      · have hf : goodI x = false := by cases h : goodI x with | false => rfl | true => have := HGI.out.1 h; omega
        have e := Lib.hid (HTB.out hf)
        clear hf
        go_wp2
        go_ret2
        exact ⟨by rw [e.out]; rfl, hbel⟩
      · have hf : goodI x = false := by cases h : goodI x with | false => rfl | true => have := HGI.out.1 h; omega
        have e := Lib.hid (HTB.out hf)
        clear hf
        go_wp2
        go_ret2
        exact ⟨by rw [e.out]; rfl, hbel⟩
      · have hf : goodI x = false := by cases h : goodI x with | false => rfl | true => have := HGI.out.1 h; omega
        have e := Lib.hid (HTB.out hf)
        clear hf
        go_wp2
        go_ret2
        exact ⟨by rw [e.out]; rfl, hbel⟩
      · have hf : goodI x = false := by cases h : goodI x with | false => rfl | true => have := HGI.out.1 h; omega
        have e := Lib.hid (HTB.out hf)
        clear hf HX HGI HTB
        subst c
        go_wp2
        go_ret2
        exact ⟨by rw [e.out]; rfl, hbel⟩
      · have hf := Lib.hid (HGI.out.2 (by omega))
        have hb : (x == 65533) = false := by simp; omega
        go_wp2
        go_roundw
        case rel =>
          refine ⟨k + 1, by omega, by go_num, fun j hj => ?_, hbel⟩
          by_cases hjk : j = k
          · rw [hjk, HX.out]; exact hf.out
          · exact HG.out j (by omega)
        case measure => simp [intOf]; omega
      · have hf := Lib.hid (HGI.out.2 (by omega))
        have hb : (x == 65533) = false := by simp; omega
        obtain ⟨d1, d2, d3⟩ := c
        clear d3
        go_wp2
        go_roundw
        case rel =>
          refine ⟨k + 1, by omega, by go_num, fun j hj => ?_, hbel⟩
          by_cases hjk : j = k
          · rw [hjk, HX.out]; exact hf.out
          · exact HG.out j (by omega)
        case measure => simp [intOf]; omega
    · have hall : ∀ j, j < xs.length → goodI (xs.getD j 0) = true := fun j hj => HG.out j (by omega)
      have e := text_good hall
      have E := Lib.hid e
      have es := runes_str xs (all_mem hall)
      cases a1 with
      | none =>
        have hz : xs = [] := by
          apply List.length_eq_zero_iff.1
          apply Nat.eq_zero_of_not_pos
          intro h0
          obtain ⟨b, off, e1, _⟩ := r1 0 h0
          cases e1
        subst hz
        obtain rfl := HCAP.out rfl
        have hcv := run_convert_runes_nil (P := Try.prog) wr 25 9 21 0 0 Try.underlying25 Try.underlying21 Try.underlying9
        simp only [List.length_nil] at hlt
        clear r1 e es hall
        go_wp2
        go_ret2
        exact ⟨rfl, hbel⟩
      | some A =>
        have hcv := run_convert_runes (P := Try.prog) wr 25 9 21 A xs.length c1 xs (Nat.le_refl _) Try.underlying25 Try.underlying21 Try.underlying9 (fun j hj => by
          obtain ⟨b, off, e1, hb, hc⟩ := r1 j hj
          cases e1
          rw [← hc, add_at]
          exact hbel.cell (p := ⟨b, off + j, none⟩) hb)
        rw [List.take_of_length_le (Nat.le_refl _), es] at hcv
        clear r1 e es hall
        go_wp2
        go_ret2
        exact ⟨ret_text (by rw [E.out]) (by rw [E.out]), hbel⟩

end Go.Proofs.Ytkagbgibncgkcaa
