/-
  The queue: the contract of Stop.
-/
import Derived.Test.YtjamdffaieocmaaQueueDF
import Derived.Deep.RegionWith
namespace Go.Proofs.Ytjamdffaieocmaa
open Go.RowKit Go.ChangeMaps

theorem stopNil (slot query : Int) (w : World) : Calls Try.prog 15 #[.pointer none, .int .i64 slot, .int .i64 query] w fun e w' => e = .returned (.int .i64 0) ∧ Below w.heap.size w w' := by
  go_enter Try.func15, Try.ntmps15
  go_wp2_with fail
  refine calls_same (lenNil _) ?_
  go_wp2
  go_ret
  exact ⟨rfl, (((Below.refl _ _).alloc (Nat.le_refl _) _).alloc (by simp) _).alloc (by simp; omega) _⟩

set_option maxRecDepth 100000 in
set_option maxHeartbeats 4000000 in
theorem stopC {w : World} {p b : Nat} {g : Option Nat} {L : List AskV} (h : QAt w p b g L) (slot query : Int) :
    Calls Try.prog 15 #[.pointer (some ⟨p, 0, none⟩), .int .i64 slot, .int .i64 query] w fun e w' => e = .returned (.int .i64 ((L.length : Int) - (stopL L slot query).length)) ∧
      QAt w' p b g (stopL L slot query) ∧ Chg (p :: b :: g.toList) w w' := by
  have H := Lib.hid h
  have hok := h.choose_spec.2.2.2.2.2.2
  have hsm := hok.small
  have hkl : (stopL L slot query).length ≤ L.length := List.length_filter_le _ _
  have hpw := lt_of_block h.choose_spec.1
  have hbw := h.choose_spec.2.2.1.lt
  have hgw := h.choose_spec.2.1.lt
  have hpb := h.choose_spec.2.2.2.1
  obtain ⟨u, hu⟩ : ∃ u, u = ((w.alloc (.cells #[.pointer (some ⟨p, 0, none⟩)] 24)).alloc (.cells #[.int .i64 slot] 3)).alloc (.cells #[.int .i64 query] 3) := ⟨_, rfl⟩
  have gu : Chg ([] : List Nat) w u := hu ▸ (((Chg.refl _ _).alloc _).alloc _).alloc _
  have hq := h.chg gu (by simp) (by simp) (by simp)
  have hlen := lenC hq
  have u0 : u.heap[w.heap.size]? = some (.cells #[.pointer (some ⟨p, 0, none⟩)] 24 (0, 0)) := by
    rw [hu, Below.heap_alloc _ _ _ (by simp; omega), Below.heap_alloc _ _ _ (by simp)]
    exact heap_alloc_new _ _
  have u1 : u.heap[w.heap.size + 1]? = some (.cells #[.int .i64 slot] 3 (0, 0)) := by
    rw [hu, Below.heap_alloc _ _ _ (by simp)]
    have := heap_alloc_new (w.alloc (.cells #[.pointer (some ⟨p, 0, none⟩)] 24)) (.cells #[.int .i64 slot] 3)
    simpa using this
  have u2 : u.heap[w.heap.size + 2]? = some (.cells #[.int .i64 query] 3 (0, 0)) := by
    rw [hu]
    have := heap_alloc_new ((w.alloc (.cells #[.pointer (some ⟨p, 0, none⟩)] 24)).alloc (.cells #[.int .i64 slot] 3)) (.cells #[.int .i64 query] 3)
    simpa using this
  have HU := Lib.hid hu
  have GU := Lib.hid gu
  have HQ := Lib.hid hq
  have HL := Lib.hid hlen
  by_cases hz : L.length = 0
  · have hL0 : L = [] := List.length_eq_zero_iff.1 hz
    subst hL0
    have hne : (((([] : List AskV).length : Nat) : Int) == 0) = true := by simp
    clear hu gu hq hlen u0 u1 u2 h
    go_enter Try.func15, Try.ntmps15
    go_wp2_with fail
    rw [← HU.out]
    refine calls_same HL.out ?_
    go_wp2
    go_ret
    exact ⟨by simp [stopL], by simpa [stopL] using HQ.out, GU.out.mono (by simp)⟩
  · obtain ⟨v, h1, h2, h3, _, n2, n3, _⟩ := id hq
    have hne : ((L.length : Int) == 0) = false := by rw [beq_eq_false_iff_ne]; omega
    obtain ⟨gb, hgb⟩ : ∃ gb, g = some gb := by
      obtain ⟨_, ⟨_, _, h0⟩ | ⟨gb, _, _, _, e, _⟩⟩ := h2
      · exact absurd h0 hz
      · exact ⟨gb, e⟩
    subst hgb
    have hgl := hgw gb rfl
    have gd : Chg ([] : List Nat) u u.drew := (Chg.refl _ u).drew
    have hd : DelAt u.drew p b (w.heap.size + 1) w.heap.size (w.heap.size + 1 + 1) slot query :=
      ⟨gd.at u0 (by simp), gd.at u1 (by simp), gd.at u2 (by simp), by show u.cell? _ = _; simp [World.cell?, h1], lt_of_block h1⟩
    have hdel := delFC hok (h2.chg gd (by simp)) hd (MapQ.same (w' := u.drew) h3 rfl) (fun e => n3 (by rw [e])) (fun e => n2 (by rw [e])) (by omega) hpb (by omega)
    unfold fnV at hdel
    obtain ⟨a, cap, rfl, _⟩ := h2.len
    have hmf : ∀ (fn : Fn) (first cap : Array Value) (w : World), (Instr.makeFunc fn first cap).run Try.prog w = .ok (.func fn first cap) w := fun _ _ _ _ => rfl
    have c0 : u.cell? ⟨p, 0, none⟩ = some (.slice a L.length cap) := by simp [World.cell?, h1]
    have c1 : u.cell? ⟨w.heap.size, 0, none⟩ = some (.pointer (some ⟨p, 0, none⟩)) := by simp [World.cell?, u0]
    have hpl := lt_of_block h1
    have hql := lt_of_block u0
    have hK : ∀ (x : World) (v' : Value), Seg x 56 2 (some gb) v' (plc (stopL L slot query)) (stopL L slot query).length → Chg [b, gb] u.drew x →
        x.cell? ⟨w.heap.size, 0, none⟩ = some (.pointer (some ⟨p, 0, none⟩)) ∧ x.cell? ⟨p, 0, none⟩ = some (.slice a L.length cap) ∧ x.frozen? ⟨p, 0, none⟩ = false ∧ p < x.heap.size ∧ w.heap.size < x.heap.size ∧
          ∃ a2 cap2, v' = .slice a2 (stopL L slot query).length cap2 := fun x v' hs' hc' => by
      have hxq := hc'.at (gd.at u0 (by simp)) (by simp; omega)
      have hxp := hc'.at (gd.at h1 (by simp)) (by simp; exact ⟨hpb, fun e => n2 (by rw [e])⟩)
      obtain ⟨a2, cap2, e2, _⟩ := hs'.len
      exact ⟨by simp [World.cell?, hxq], by simp [World.cell?, hxp], by simp [World.frozen?, hxp], lt_of_block hxp, lt_of_block hxq, a2, cap2, e2⟩
    have hF : ∀ (x : World) (a2 : Option Addr) (cap2 : Nat), Seg x 56 2 (some gb) (.slice a2 (stopL L slot query).length cap2) (plc (stopL L slot query)) (stopL L slot query).length → MapQ x b (atF (stopL L slot query)) (stopL L slot query).length → Chg [b, gb] u.drew x →
        QAt (x.setCell ⟨p, 0, none⟩ (.slice a2 (stopL L slot query).length cap2)) p b (some gb) (stopL L slot query) ∧ Chg (p :: b :: (some gb).toList) w (x.setCell ⟨p, 0, none⟩ (.slice a2 (stopL L slot query).length cap2)) := fun x a2 cap2 hs' hm' hc' => by
      have hxp := hc'.at (gd.at h1 (by simp)) (by simp; exact ⟨hpb, fun e => n2 (by rw [e])⟩)
      have gs : Chg [p] x (x.setCell ⟨p, 0, none⟩ (.slice a2 (stopL L slot query).length cap2)) := (Chg.refl _ _).setCell _ (by simp) _
      refine ⟨⟨_, by rw [heap_setCell_at hxp]; rfl, hs'.chg gs (fun q hq => by simp; intro e; exact n2 (by rw [hq, e])), hm'.same (gs.block b hm'.lt (by simp; exact fun e => hpb e.symm)), hpb, n2, n3, hok.filter _⟩, ?_⟩
      exact (((gu.trans gd).mono (by simp)).trans (hc'.mono (by simp))).trans (gs.mono (by simp))
    have HK := Lib.hid hK
    have HF := Lib.hid hF
    have HDEL := Lib.hid hdel
    have HP := Lib.hid h1
    have U0 := Lib.hid u0
    clear hu gu hq hlen u1 u2 h h1 h2 h3 hd hdel gd hK hF
    go_enter Try.func15, Try.ntmps15
    go_wp2_with fail
    rw [← HU.out]
    refine calls_same HL.out ?_
    go_upto_region 4 with fail
    go_region_with ((go_at_call 22; (refine (HDEL.out).mono ?_); rintro e x ⟨v', rfl, ⟨hs', hm'⟩, hc'⟩; obtain ⟨j0, j1, j2, j3, j4, a2, cap2, rfl⟩ := HK.out x v' hs' hc'))
    all_goals
      go_wp2_with fail
      refine calls_same (lenC (HF.out x a2 cap2 hs' hm' hc').1) ?_
      go_wp2
      go_ret
      exact ⟨rfl, HF.out x a2 cap2 hs' hm' hc'⟩

end Go.Proofs.Ytjamdffaieocmaa
