/-
  QueueScript: where both queues stand.
-/
import Derived.Test.YtjamdffaieocmaaQueueOver
import Derived.Test.YtjamdffaieocmaaQueueGreat
namespace Go.Proofs.Ytjamdffaieocmaa
open Go.RowKit Go.ChangeMaps

def S0 (B : Nat) (w0 w : World) (p b : Nat) (L : List AskV) (rp : Nat) : Prop := ∃ rg, QF B (rp :: rg.toList) w p b L ∧ RAt w rp rg L ∧ B ≤ rp ∧ Below B w0 w

def SQ (B : Nat) (w0 w : World) (p b : Nat) (Lq : List AskV) (rp : Nat) (Lr : List AskV) (xb : Nat) (x : ActV) : Prop :=
  ∃ rg, QF B (xb :: rp :: rg.toList) w p b Lq ∧ RAt w rp rg Lr ∧ w.heap[xb]? = some (.cells x.cells.toArray 39 (0, 0)) ∧ xb ∉ rp :: rg.toList ∧ B ≤ rp ∧ Below B w0 w

def SA (B : Nat) (w0 w : World) (p b : Nat) (L : List AskV) (rp : Nat) (g : Option Nat) (v : Value) : Prop :=
  ∃ rg, QF B (g.toList ++ (rp :: rg.toList)) w p b L ∧ RAt w rp rg L ∧ B ≤ rp ∧ Below B w0 w ∧ Seg w 32 11 g v (askC L) L.length ∧ (∀ x, g = some x → x ∉ rp :: rg.toList ∧ B ≤ x)

variable {B : Nat} {w0 w w' : World} {p b : Nat} {L Lq Lr : List AskV} {rp xb : Nat} {x : ActV} {g : Option Nat} {v : Value}

theorem S0.ok (h : S0 B w0 w p b L rp) : QOk L ∧ B ≤ w.heap.size := by
  obtain ⟨rg, h1, _⟩ := h
  exact ⟨h1.ok, h1.size⟩

theorem S0.act (h : S0 B w0 w p b L rp) (x : ActV) : SQ B w0 (w.alloc (.cells x.cells.toArray 39 (0, 0))) p b L rp L w.heap.size x := by
  obtain ⟨rg, h1, h2, h3, h4⟩ := h
  have ga : Chg ([] : List Nat) w (w.alloc (.cells x.cells.toArray 39 (0, 0))) := (Chg.refl _ _).alloc _
  refine ⟨rg, h1.add (ga.mono (by simp)) (Nat.le_refl _) (by simp), h2.kept (Kept.of_chg ga h2.lt (by simp)), heap_alloc_new _ _, fun e => ?_, h3, h4.trans (ga.nil_below.mono h1.size)⟩
  have := h2.lt _ e
  omega

theorem SQ.chg (h : SQ B w0 w p b Lq rp Lr xb x) (hc : Chg ([] : List Nat) w w') : SQ B w0 w' p b Lq rp Lr xb x := by
  obtain ⟨rg, h1, h2, h3, h4, h5, h6⟩ := h
  exact ⟨rg, h1.chg (hc.mono (by simp)), h2.kept (Kept.of_chg hc h2.lt (by simp)), hc.at h3 (by simp), h4, h5, h6.trans (hc.nil_below.mono h1.size)⟩

theorem SQ.cell (h : SQ B w0 w p b Lq rp Lr xb x) (i : Nat) (u : Value) (hu : x.cells[i]? = some u) : w.cell? ⟨xb, i, none⟩ = some u := by
  obtain ⟨rg, h1, h2, h3, h4, h5, h6⟩ := h
  simp only [World.cell?, h3]
  rw [List.getElem?_toArray, hu]
  rfl

theorem SQ.lt (h : SQ B w0 w p b Lq rp Lr xb x) : xb < w.heap.size := by
  obtain ⟨rg, h1, h2, h3, h4, h5, h6⟩ := h
  exact lt_of_block h3

theorem SQ.okr (h : SQ B w0 w p b Lq rp Lr xb x) : QOk Lq := by
  obtain ⟨rg, h1, h2, h3, h4, h5, h6⟩ := h
  exact h1.ok

theorem SQ.out (h : SQ B w0 w p b L rp L xb x) : S0 B w0 w p b L rp := by
  obtain ⟨rg, h1, h2, h3, h4, h5, h6⟩ := h
  exact ⟨rg, h1.mono (fun y hy => List.mem_cons_of_mem _ hy), h2, h5, h6⟩

theorem SQ.ofq {rg : Option Nat} {Lq' : List AskV} (h2 : RAt w rp rg Lr) (h3 : w.heap[xb]? = some (.cells x.cells.toArray 39 (0, 0))) (h4 : xb ∉ rp :: rg.toList) (h5 : B ≤ rp) (h6 : Below B w0 w)
    (hq : QF B (xb :: rp :: rg.toList) w' p b Lq') (hb : Below B w w') (hk : Kept (xb :: rp :: rg.toList) w w') : SQ B w0 w' p b Lq' rp Lr xb x :=
  ⟨rg, hq, h2.kept (hk.mono fun y hy => List.mem_cons_of_mem _ hy), (hk xb (by simp)).trans h3, h4, h5, h6.trans hb⟩

theorem SQ.ofr {rg rg' : Option Nat} {Lr' : List AskV} (h1 : QF B (xb :: rp :: rg.toList) w p b Lq) (h2 : RAt w rp rg Lr) (h3 : w.heap[xb]? = some (.cells x.cells.toArray 39 (0, 0))) (h4 : xb ∉ rp :: rg.toList) (h5 : B ≤ rp) (h6 : Below B w0 w)
    (hr : RL w w' rp rg rg' Lr') : SQ B w0 w' p b Lq rp Lr' xb x := by
  have hne : xb ≠ rp := fun e => h4 (by simp [e])
  have hxl := lt_of_block h3
  have gc : Chg (xb :: rp :: rg.toList) w w' := hr.c.mono (by simp)
  refine ⟨rg', ?_, hr.at', hr.c.at h3 (by simpa using hne), fun e => ?_, h5, h6.trans (hr.c.below (by simpa using h5) h1.size)⟩
  · rcases hr.g with e | hf
    · rw [e]; exact h1.chg gc
    · cases hg' : rg' with
      | none => exact (h1.chg gc).mono (by simp)
      | some y =>
        refine (h1.add (x := y) gc (hf y hg') (hr.at'.lt y (by simp [hg']))).mono fun q hq => ?_
        simp only [List.mem_cons, Option.toList_some, List.not_mem_nil, or_false] at hq ⊢
        rcases hq with rfl | rfl | rfl
        · exact .inr (.inl rfl)
        · exact .inr (.inr (.inl rfl))
        · exact .inl rfl
  · rcases List.mem_cons.1 e with e | e
    · exact hne e
    · rcases hr.g with e2 | hf
      · exact h4 (by rw [← e2]; exact List.mem_cons_of_mem _ e)
      · have := hf xb (by simpa using e)
        omega

theorem pushS1 (h : SQ B w0 w p b Lq rp Lr xb x) (r : AskV) : Calls Try.prog 11 #[.pointer (some ⟨p, 0, none⟩), r.val] w fun e w' => e = .returned (.bool (pushB Lq r)) ∧ SQ B w0 w' p b (pushL Lq r) rp Lr xb x := by
  obtain ⟨rg, h1, h2, h3, h4, h5, h6⟩ := h
  exact (pushF h1 r).mono fun e w' ⟨he, hq, hb, hk⟩ => ⟨he, SQ.ofq h2 h3 h4 h5 h6 hq hb hk⟩
theorem pushS2 (h : SQ B w0 w p b Lq rp Lr xb x) (hq : QOk Lr) (r : AskV) : Calls Try.prog 17 #[.pointer (some ⟨rp, 0, none⟩), r.val] w fun e w' => e = .returned (.bool (pushB Lr r)) ∧ SQ B w0 w' p b Lq rp (pushL Lr r) xb x := by
  obtain ⟨rg, h1, h2, h3, h4, h5, h6⟩ := h
  exact (rpushC h2 hq r).mono fun e w' ⟨he, rg', hr⟩ => ⟨he, SQ.ofr h1 h2 h3 h4 h5 h6 hr⟩
theorem stopS1 (h : SQ B w0 w p b Lq rp Lr xb x) (s q : Int) : Calls Try.prog 15 #[.pointer (some ⟨p, 0, none⟩), .int .i64 s, .int .i64 q] w fun e w' => e = .returned (.int .i64 ((Lq.length : Int) - (stopL Lq s q).length)) ∧ SQ B w0 w' p b (stopL Lq s q) rp Lr xb x := by
  obtain ⟨rg, h1, h2, h3, h4, h5, h6⟩ := h
  exact (stopF h1 s q).mono fun e w' ⟨he, hq, hb, hk⟩ => ⟨he, SQ.ofq h2 h3 h4 h5 h6 hq hb hk⟩
theorem stopS2 (h : SQ B w0 w p b Lq rp Lr xb x) (hq : QOk Lr) (s q : Int) : Calls Try.prog 19 #[.pointer (some ⟨rp, 0, none⟩), .int .i64 s, .int .i64 q] w fun e w' => e = .returned (.int .i64 ((Lr.length : Int) - (stopL Lr s q).length)) ∧ SQ B w0 w' p b Lq rp (stopL Lr s q) xb x := by
  obtain ⟨rg, h1, h2, h3, h4, h5, h6⟩ := h
  exact (rstopC h2 (by have := hq.small; omega) s q).mono fun e w' ⟨he, rg', hr⟩ => ⟨he, SQ.ofr h1 h2 h3 h4 h5 h6 hr⟩
theorem popS1 (h : SQ B w0 w p b Lq rp Lr xb x) : Calls Try.prog 12 #[.pointer (some ⟨p, 0, none⟩)] w fun e w' => e = .returned (.tuple #[(Lq.headD default).val, .bool (!Lq.isEmpty)]) ∧ SQ B w0 w' p b Lq.tail rp Lr xb x := by
  obtain ⟨rg, h1, h2, h3, h4, h5, h6⟩ := h
  exact (popF h1).mono fun e w' ⟨he, hq, hb, hk⟩ => ⟨he, SQ.ofq h2 h3 h4 h5 h6 hq hb hk⟩
theorem popS2 (h : SQ B w0 w p b Lq rp Lr xb x) (hq : QOk Lr) : Calls Try.prog 18 #[.pointer (some ⟨rp, 0, none⟩)] w fun e w' => e = .returned (.tuple #[(Lr.headD default).val, .bool (!Lr.isEmpty)]) ∧ SQ B w0 w' p b Lq rp Lr.tail xb x := by
  obtain ⟨rg, h1, h2, h3, h4, h5, h6⟩ := h
  exact (rpopC h2 (by have := hq.small; omega)).mono fun e w' ⟨he, rg', hr⟩ => ⟨he, SQ.ofr h1 h2 h3 h4 h5 h6 hr⟩

theorem allS (h : S0 B w0 w p b L rp) : Calls Try.prog 14 #[.pointer (some ⟨p, 0, none⟩)] w fun e w' => ∃ v, e = .returned v ∧ ∃ g, SA B w0 w' p b L rp g v := by
  obtain ⟨rg, h1, h2, h3, h4⟩ := h
  have hs := h1.size
  refine (allF h1).mono fun e w' ⟨v, he, g, hs', hf, hq, hb⟩ => ⟨v, he, g, rg, hq, h2.kept (Kept.of_chg (Chg.of_below (S := []) hb) h2.lt (by simp)), h3, h4.trans (hb.mono hs), hs', fun y hy => ⟨fun e => ?_, ?_⟩⟩
  · have := h2.lt y e
    have := hf y hy
    omega
  · have := hf y hy
    omega

theorem SA.chg (h : SA B w0 w p b L rp g v) (hc : Chg ([] : List Nat) w w') : SA B w0 w' p b L rp g v := by
  obtain ⟨rg, h1, h2, h3, h4, h5, h6⟩ := h
  exact ⟨rg, h1.chg (hc.mono (by simp)), h2.kept (Kept.of_chg hc h2.lt (by simp)), h3, h4.trans (hc.nil_below.mono h1.size), h5.chg hc (by simp), h6⟩

theorem SA.out (h : SA B w0 w p b L rp g v) : S0 B w0 w p b L rp := by
  obtain ⟨rg, h1, h2, h3, h4, h5, h6⟩ := h
  exact ⟨rg, h1.mono (fun y hy => List.mem_append_right _ hy), h2, h3, h4⟩

theorem SA.len (h : SA B w0 w p b L rp g v) : ∃ a c, v = .slice a L.length c := by
  obtain ⟨rg, h1, h2, h3, h4, h5, h6⟩ := h
  obtain ⟨a, c, e, _⟩ := h5.len
  exact ⟨a, c, e⟩

theorem SA.ref (h : SA B w0 w p b L rp g v) : ∃ ra rc, w.cell? ⟨rp, 0, none⟩ = some (.slice ra L.length rc) ∧ rp < w.heap.size ∧
    ∀ n, Calls Try.prog 16 #[v, .slice ra L.length rc] (w.drewN n) fun e w' => e = .returned (.bool true) ∧ ∃ m, w' = w.drewN m := by
  obtain ⟨rg, h1, ⟨rv, h2, h2', h2''⟩, h3, h4, h5, h6⟩ := h
  obtain ⟨ra, rc, rfl, _⟩ := h2'.len
  refine ⟨ra, rc, by simp [World.cell?, h2], lt_of_block h2, fun n => ?_⟩
  refine (sameAsksQ (h5.chg (chg_drewN w n) (by simp)) (h2'.chg (chg_drewN w n) (by simp))).mono fun e w' ⟨he, m, hm⟩ => ⟨by rw [he]; simp, n + m, by rw [hm, drewN_drewN]⟩

theorem SA.lenS (h : SA B w0 w p b L rp g v) (n : Nat) : Calls Try.prog 20 #[.pointer (some ⟨p, 0, none⟩)] (w.drewN n) fun e w' => e = .returned (.int .i64 L.length) ∧ ∃ m, w' = w.drewN m := by
  obtain ⟨rg, h1, h2, h3, h4, h5, h6⟩ := h
  exact (lenF (h1.chg ((chg_drewN w n).mono (by simp)))).mono fun e w' ⟨he, hm⟩ => ⟨he, n, hm.symm⟩

theorem SA.over (h : SA B w0 w p b L rp g v) : Calls Try.prog 21 #[v] w fun e w' => e = .returned (.tuple #[]) ∧ S0 B w0 w' p b L rp := by
  obtain ⟨rg, h1, h2, h3, h4, h5, h6⟩ := h
  have hs := h1.ok.small
  refine (overAsksC h5 (by omega)).mono fun e w' ⟨he, hc⟩ => ⟨he, rg, (h1.chg (hc.mono fun y hy => List.mem_append_left _ hy)).mono (fun y hy => List.mem_append_right _ hy), h2.kept (Kept.of_chg hc h2.lt fun y hy e => ?_), h3, h4.trans (hc.below (fun y hy => ?_) h1.size)⟩
  · exact (h6 y (by simpa using e)).1 hy
  · exact (h6 y (by simpa using hy)).2

theorem popS2' (h : SQ B w0 w p b Lq rp Lr xb x) (hq : QOk Lr) : Calls Try.prog 18 #[.pointer (some ⟨rp, 0, none⟩)] w fun e w' => e = .returned (.tuple #[(Lr.headD default).val, .bool (!Lr.isEmpty)]) ∧ SQ B w0 w' p b Lq rp Lr.tail xb x ∧ Chg [rp] w w' := by
  obtain ⟨rg, h1, h2, h3, h4, h5, h6⟩ := h
  exact (rpopC h2 (by have := hq.small; omega)).mono fun e w' ⟨he, rg', hr⟩ => ⟨he, SQ.ofr h1 h2 h3 h4 h5 h6 hr, hr.c⟩

theorem SQ.ltr (h : SQ B w0 w p b Lq rp Lr xb x) : rp < w.heap.size := by
  obtain ⟨rg, h1, h2, h3, h4, h5, h6⟩ := h
  exact h2.lt rp (by simp)

theorem S0.ref (h : S0 B w0 w p b L rp) : ∃ ra rc, w.cell? ⟨rp, 0, none⟩ = some (.slice ra L.length rc) ∧ rp < w.heap.size := by
  obtain ⟨rg, h1, ⟨rv, h2, h2', h2''⟩, h3, h4⟩ := h
  obtain ⟨ra, rc, rfl, _⟩ := h2'.len
  exact ⟨ra, rc, by simp [World.cell?, h2], lt_of_block h2⟩

theorem S0.chg (h : S0 B w0 w p b L rp) (hc : Chg ([] : List Nat) w w') : S0 B w0 w' p b L rp := by
  obtain ⟨rg, h1, h2, h3, h4⟩ := h
  exact ⟨rg, h1.chg (hc.mono (by simp)), h2.kept (Kept.of_chg hc h2.lt (by simp)), h3, h4.trans (hc.nil_below.mono h1.size)⟩

/-- The last look: All, beside the document's list. -/
theorem allE (h : S0 B w0 w p b L rp) : Calls Try.prog 14 #[.pointer (some ⟨p, 0, none⟩)] w fun e w' => ∃ v, e = .returned v ∧ (∃ a c, v = .slice a L.length c) ∧ w'.cell? ⟨rp, 0, none⟩ = w.cell? ⟨rp, 0, none⟩ ∧ rp < w'.heap.size ∧ Below B w0 w' ∧ B ≤ w'.heap.size ∧
    ∀ rv, w.cell? ⟨rp, 0, none⟩ = some rv → Calls Try.prog 16 #[v, rv] w' fun e w'' => e = .returned (.bool true) ∧ Below w'.heap.size w' w'' := by
  obtain ⟨rg, h1, h2, h3, h4⟩ := h
  obtain ⟨rv, q1, q2, q3⟩ := id h2
  have hs := h1.size
  have hrl := lt_of_block q1
  refine (allF h1).mono fun e w' ⟨v, he, g, hs', hf, hq, hb⟩ => ⟨v, he, ?_, World.cell?_of_block (hb.block rp hrl), Nat.lt_of_lt_of_le hrl hb.size, h4.trans (hb.mono hs), Nat.le_trans hs hb.size, fun rv' hrv => ?_⟩
  · obtain ⟨a, c, e, _⟩ := hs'.len
    exact ⟨a, c, e⟩
  · have : rv' = rv := by
      simp [World.cell?, q1] at hrv
      exact hrv.symm
    subst this
    exact (sameAsksC hs' (q2.chg (Chg.of_below (S := []) hb) (by simp))).mono fun e w'' ⟨he, hb⟩ => ⟨by rw [he]; simp, hb⟩

end Go.Proofs.Ytjamdffaieocmaa
