/-
  The net: the contract of Double.
-/
import Derived.Test.YtphoijlpgplnkaaNetDrop
namespace Go.Proofs.Ytphoijlpgplnkaa
open Go.RowKit Go.ChangeMaps

theorem grow_step {B : Nat} {F : List Nat} {z : World} {p : Nat} {g : Option Nat} {vl : Value} {most next : Int} {Ms : List GM} (h : NAt z p g vl most next Ms) (hB : ∀ x ∈ ownN p g Ms, B ≤ x) (hBs : B ≤ z.heap.size) (hF : ∀ x ∈ F, x < z.heap.size ∧ x ∉ ownN p g Ms)
    (hl : (Ms.length : Int) < most) (gv : GV) {v' : Value} {fb : Option Nat} (hs : Seg z 5 1 fb v' (byC gv.fr) gv.fr.length) (hno : ∀ x, fb = some x → x ∉ ownN p g Ms ∧ B ≤ x ∧ x ∉ F) :
    ∃ fa fc va vc t, v' = .slice fa gv.fr.length fc ∧
      (∀ ty, (Builtin.append_ #[54, 54] ty #[vl, .slice (some ⟨z.heap.size, 0, none⟩) 1 1]).run Try.prog (z.alloc (.cells #[.int .i64 gv.id, .int .i64 gv.frm, .int .i64 gv.to, .slice fa gv.fr.length fc, .bool gv.sp] 31 (0, 0))) = .ok (.slice va (Ms.length + 1) vc) t) ∧
      (∃ q, t.cell? ⟨p, 2, none⟩ = some q) ∧ t.frozen? ⟨p, 2, none⟩ = false ∧ p < t.heap.size ∧
      NF B F (t.setCell ⟨p, 2, none⟩ (.slice va (Ms.length + 1) vc)) p most next (Ms.map GM.g ++ [gv]) ∧ Below B z (t.setCell ⟨p, 2, none⟩ (.slice va (Ms.length + 1) vc)) ∧ Kept F z (t.setCell ⟨p, 2, none⟩ (.slice va (Ms.length + 1) vc)) := by
  obtain ⟨fa, fc, rfl, _⟩ := hs.len
  obtain ⟨v2, t, g', hrun, hn, hc, hq, hfz, hp, hg⟩ := h.grow ⟨gv, .slice fa gv.fr.length fc, fb⟩ hs (fun x hx => (hno x hx).1) hl
  obtain ⟨va, vc, hv, _⟩ := hn.s.len
  subst hv
  simp only [List.length_append, List.length_singleton] at hrun hn hc
  have hsub : ∀ x ∈ p :: g.toList, x ∈ ownN p g Ms := fun x hx => by
    simp only [ownN, List.mem_cons, List.mem_append] at hx ⊢
    rcases hx with hx | hx
    · exact .inl hx
    · exact .inr (.inl hx)
  refine ⟨fa, fc, va, vc, t, rfl, hrun, hq, hfz, hp, ⟨g', _, _, hn, by simp, ?_, Nat.le_trans hBs hc.size, fun x hx => ⟨Nat.lt_of_lt_of_le (hF x hx).1 hc.size, ?_⟩⟩, hc.below (fun x hx => hB x (hsub x hx)) hBs, Kept.of_chg hc (fun x hx => (hF x hx).1) (fun x hx e => (hF x hx).2 (hsub x e))⟩
  · intro x hx
    simp only [ownN, List.mem_cons, List.mem_append, List.filterMap_append, Option.mem_toList] at hx
    rcases hx with rfl | hx | hx | hx
    · exact hB _ (by simp [ownN])
    · rcases hg with e | ⟨q, e, hq⟩
      · exact hB x (by simp [ownN, ← e, hx])
      · rw [hx] at e; injection e with e
        omega
    · exact hB x (by simp [ownN] at hx ⊢; exact .inr (.inr hx))
    · simp at hx
      exact (hno x hx).2.1
  · intro e
    simp only [ownN, List.mem_cons, List.mem_append, List.filterMap_append, Option.mem_toList] at e
    have h1 := (hF x hx).1
    rcases e with rfl | e | e | e
    · exact (hF _ hx).2 (by simp [ownN])
    · rcases hg with e2 | ⟨q, e2, hq⟩
      · exact (hF _ hx).2 (by simp [ownN, ← e2, e])
      · rw [e] at e2; injection e2 with e2
        omega
    · exact (hF _ hx).2 (by simp [ownN] at e ⊢; exact .inr (.inr e))
    · simp at e
      exact (hno x e).2.2 hx

def doubleB (L : List GV) (most i : Int) : Bool := isN L.length i && decide ((L.length : Int) < most)
def doubleL (L : List GV) (most i : Int) : List GV := if doubleB L most i then L ++ [L.getD i.toNat default] else L

set_option maxRecDepth 100000 in
set_option maxHeartbeats 1000000 in
theorem doubleNo {w : World} {p : Nat} {g : Option Nat} {v : Value} {most next : Int} {Ms : List GM} (h : NAt w p g v most next Ms) (i : Int) (hb : isN Ms.length i = false ∨ (Ms.length : Int) = most) :
    Calls Try.prog 16 #[.pointer (some ⟨p, 0, none⟩), .int .i64 i] w fun e w' => e = .returned (.bool false) ∧ Below w.heap.size w w' := by
  have his : ∀ n, Calls Try.prog 31 #[.pointer (some ⟨p, 0, none⟩), .int .i64 i] (w.drewN n) fun e w' => e = .returned (.bool (isN Ms.length i)) ∧ ∃ m, w' = w.drewN m := fun n =>
    (isC (h.kept (Kept.of_chg (chg_drewN w n) h.lt (by simp))) i).mono fun e w' ⟨he, hm⟩ => ⟨he, n, hm.symm⟩
  have hp := lt_of_block h.c
  obtain ⟨a, cap, rfl, hn1, hm⟩ := h.s.len
  have hml := h.l
  have hm2 := h.m2
  have c0 : w.cell? ⟨p, 0, none⟩ = some (.int .i64 most) := by simp [World.cell?, h.c]
  have c2 : w.cell? ⟨p, 2, none⟩ = some (.slice a Ms.length cap) := by simp [World.cell?, h.c]
  unfold maxLen at hm
  clear h
  cases hi : isN Ms.length i
  · rw [hi] at his
    have HIS := Lib.hid his
    clear his hb
    go_enter Try.func16, Try.ntmps16
    go_upto_region 1 with fail
    go_quiet (first | (go_at_call 31; exact HIS.out _))
    all_goals
      have hb2 : Below w.heap.size w (w.drewN nq) := (chg_drewN w nq).nil_below
      generalize w.drewN nq = y at *
      go_wp2
      go_ret
      exact ⟨rfl, hb2⟩
  · have hmo : (Ms.length : Int) = most := by
      rcases hb with h | h
      · rw [hi] at h; cases h
      · exact h
    rw [hi] at his
    have HIS := Lib.hid his
    have hmo2 : ((Ms.length : Int) == most) = true := by simp [hmo]
    clear his hb hi
    go_enter Try.func16, Try.ntmps16
    go_upto_region 1 with fail
    go_quiet (first | (go_at_call 31; exact HIS.out _))
    all_goals
      have hb2 : Below w.heap.size w (w.drewN nq) := (chg_drewN w nq).nil_below
      generalize w.drewN nq = y at *
      go_wp2
      go_ret
      exact ⟨rfl, hb2⟩

end Go.Proofs.Ytphoijlpgplnkaa
