/-
  NetScript: where both nets stand, and what each call leaves of it.
-/
import Derived.Test.YtphoijlpgplnkaaNetList
import Derived.Test.YtphoijlpgplnkaaNetOverG
import Derived.Test.YtphoijlpgplnkaaNetSame
import Derived.Test.YtphoijlpgplnkaaNetRefD
import Derived.Test.YtphoijlpgplnkaaNetRefS
import Derived.Test.YtphoijlpgplnkaaNetDoubleC
import Derived.Test.YtphoijlpgplnkaaNetSpoilC
import Derived.Test.YtphoijlpgplnkaaNetKeepsS
namespace Go.Proofs.Ytphoijlpgplnkaa
open Go.RowKit Go.ChangeMaps

theorem NF.re {B : Nat} {F F' : List Nat} {w w' : World} {p : Nat} {most next : Int} {L : List GV} (h : NF B F w p most next L) (hc : Chg F w w') (hF : ∀ x ∈ F', x ∈ F ∨ (w.heap.size ≤ x ∧ x < w'.heap.size)) : NF B F' w' p most next L := by
  obtain ⟨g, v, Ms, h1, h2, h3, h4, h5⟩ := h
  refine ⟨g, v, Ms, h1.kept (Kept.of_chg hc h1.lt fun x hx e => (h5 x e).2 hx), h2, h3, Nat.le_trans h4 hc.size, fun y hy => ?_⟩
  rcases hF y hy with hy | ⟨ha, hb⟩
  · exact ⟨Nat.lt_of_lt_of_le (h5 y hy).1 hc.size, (h5 y hy).2⟩
  · exact ⟨hb, fun e => by have := h1.lt y e; omega⟩

/-- Both nets; the blocks of F are others'. -/
structure SN (B : Nat) (F : List Nat) (w0 w : World) (p : Nat) (most na : Int) (La : List GV) (rp : Nat) (nb : Int) (Lb : List GV) (rg : Option Nat) (rv : Value) (rMs : List GM) : Prop where
  q : NF B (F ++ ownN rp rg rMs) w p most na La
  r : RAt w rp rg rv rMs most nb
  m : rMs.map GM.g = Lb
  o : ∀ x ∈ ownN rp rg rMs, B ≤ x ∧ x ∉ F
  b : Below B w0 w
  e : B = w0.heap.size

def SS (B : Nat) (F : List Nat) (w0 w : World) (p : Nat) (most na : Int) (La : List GV) (rp : Nat) (nb : Int) (Lb : List GV) : Prop :=
  ∃ rg rv rMs, SN B F w0 w p most na La rp nb Lb rg rv rMs

def FrL (L : List GV) : Prop := ∀ x ∈ L, x.fr.length ≤ 100

section
variable {B : Nat} {F : List Nat} {w0 w w' : World} {p : Nat} {most na : Int} {La : List GV} {rp : Nat} {nb : Int} {Lb : List GV}

theorem SS.flt (h : SS B F w0 w p most na La rp nb Lb) : ∀ x ∈ F, x < w.heap.size := fun x hx => by
  obtain ⟨rg, rv, rMs, h⟩ := h
  obtain ⟨_, _, _, _, _, _, _, h5⟩ := h.q
  exact (h5 x (List.mem_append_left _ hx)).1

theorem SS.size (h : SS B F w0 w p most na La rp nb Lb) : B ≤ w.heap.size := by
  obtain ⟨rg, rv, rMs, h⟩ := h
  exact h.q.size

theorem SS.len (h : SS B F w0 w p most na La rp nb Lb) : 1 ≤ most ∧ most ≤ 64 ∧ (La.length : Int) ≤ most ∧ (Lb.length : Int) ≤ most := by
  obtain ⟨rg, rv, rMs, h⟩ := h
  have := h.q.len
  have h1 := h.r.l
  rw [← h.m, List.length_map]
  omega

theorem SS.below (h : SS B F w0 w p most na La rp nb Lb) : Below w0.heap.size w0 w := by
  obtain ⟨rg, rv, rMs, h⟩ := h
  exact h.e ▸ h.b

theorem SS.chg (h : SS B F w0 w p most na La rp nb Lb) (hc : Chg ([] : List Nat) w w') : SS B F w0 w' p most na La rp nb Lb := by
  obtain ⟨rg, rv, rMs, h⟩ := h
  exact ⟨rg, rv, rMs, h.q.chg (hc.mono (by simp)), h.r.chg hc, h.m, h.o, h.b.trans (hc.below (by simp) h.q.size), h.e⟩

theorem SS.drop {F' : List Nat} (h : SS B F w0 w p most na La rp nb Lb) (hF : ∀ x ∈ F', x ∈ F) : SS B F' w0 w p most na La rp nb Lb := by
  obtain ⟨rg, rv, rMs, h⟩ := h
  refine ⟨rg, rv, rMs, h.q.mono fun x hx => ?_, h.r, h.m, fun x hx => ⟨(h.o x hx).1, fun e => (h.o x hx).2 (hF x e)⟩, h.b, h.e⟩
  rcases List.mem_append.1 hx with hx | hx
  · exact List.mem_append_left _ (hF x hx)
  · exact List.mem_append_right _ hx

/-- New blocks are others'. -/
theorem SS.add {S : List Nat} (h : SS B F w0 w p most na La rp nb Lb) (hc : Chg ([] : List Nat) w w') (hS : ∀ x ∈ S, w.heap.size ≤ x ∧ x < w'.heap.size) : SS B (S ++ F) w0 w' p most na La rp nb Lb := by
  obtain ⟨rg, rv, rMs, h⟩ := h
  refine ⟨rg, rv, rMs, h.q.re (hc.mono (by simp)) fun x hx => ?_, h.r.chg hc, h.m, fun x hx => ⟨(h.o x hx).1, fun e => ?_⟩, h.b.trans (hc.below (by simp) h.q.size), h.e⟩
  · rw [List.append_assoc] at hx
    rcases List.mem_append.1 hx with hx | hx
    · exact .inr (hS x hx)
    · exact .inl hx
  · rcases List.mem_append.1 e with e | e
    · have := (hS x e).1
      have := h.r.lt x hx
      omega
    · exact (h.o x hx).2 e

/-- Others' blocks turn. -/
theorem SS.turn {S : List Nat} (h : SS B F w0 w p most na La rp nb Lb) (hc : Chg S w w') (hS : ∀ x ∈ S, x ∈ F ∧ B ≤ x) : SS B F w0 w' p most na La rp nb Lb := by
  obtain ⟨rg, rv, rMs, h⟩ := h
  exact ⟨rg, rv, rMs, h.q.chg (hc.mono fun x hx => List.mem_append_left _ (hS x hx).1), h.r.kept (Kept.of_chg hc h.r.lt fun x hx e => (h.o x hx).2 (hS x e).1), h.m, h.o, h.b.trans (hc.below (fun x hx => (hS x hx).2) h.q.size), h.e⟩

/-- The net's own call. -/
theorem SN.net {na' : Int} {La' : List GV} {rg : Option Nat} {rv : Value} {rMs : List GM} (h : SN B F w0 w p most na La rp nb Lb rg rv rMs) (q : NF B (F ++ ownN rp rg rMs) w' p most na' La') (b : Below B w w') (k : Kept (F ++ ownN rp rg rMs) w w') :
    SS B F w0 w' p most na' La' rp nb Lb ∧ Kept F w w' :=
  ⟨⟨rg, rv, rMs, q, h.r.kept (k.mono fun x hx => List.mem_append_right _ hx), h.m, h.o, h.b.trans b, h.e⟩, k.mono fun x hx => List.mem_append_left _ hx⟩

/-- A call of the document's net. -/
theorem SN.ref {nb' : Int} {Lb' : List GV} {rg : Option Nat} {rv : Value} {rMs : List GM} (h : SN B F w0 w p most na La rp nb Lb rg rv rMs) (hr : RL w w' rp rg rMs most nb' Lb') :
    SS B F w0 w' p most na La rp nb' Lb' ∧ Kept F w w' := by
  obtain ⟨⟨g', v', Ms', h1, h2, h3⟩, hc⟩ := hr
  have hrp : rp ∈ ownN rp rg rMs := by simp [ownN]
  have hlt := SS.flt ⟨rg, rv, rMs, h⟩
  refine ⟨⟨g', v', Ms', h.q.re (hc.mono (by simpa using .inr hrp)) fun x hx => ?_, h1, h2, fun x hx => ?_, h.b.trans (hc.below (by simpa using (h.o rp hrp).1) h.q.size), h.e⟩, Kept.of_chg hc hlt fun x hx e => ?_⟩
  · rcases List.mem_append.1 hx with hx | hx
    · exact .inl (List.mem_append_left _ hx)
    · rcases h3 x hx with h3 | h3
      · exact .inl (List.mem_append_right _ h3)
      · exact .inr ⟨h3, h1.lt x hx⟩
  · rcases h3 x hx with h3 | h3
    · exact h.o x h3
    · have := h.q.size
      exact ⟨by omega, fun e => by have := hlt x e; omega⟩
  · simp only [List.mem_singleton] at e
    subst e
    exact (h.o _ hrp).2 hx

theorem SS.send (h : SS B F w0 w p most na La rp nb Lb) (hn : na < 1000) (f t : Int) (v : Value) (bs : List Int) (hr : Reads w .u8 v bs) (hbs : bs.length ≤ 100) :
    Calls Try.prog 9 #[.pointer (some ⟨p, 0, none⟩), .int .i64 f, .int .i64 t, v] w fun e w' => e = .returned (.tuple #[.int .i64 na, .bool (decide ((La.length : Int) < most))]) ∧
      SS B F w0 w' p most (na + 1) (sendL most La ⟨na, f, t, bs, false⟩) rp nb Lb ∧ Kept F w w' := by
  obtain ⟨rg, rv, rMs, h⟩ := h
  exact (sendC h.q hn f t v bs hr (by omega)).mono fun e w' ⟨he, q, b, k⟩ => ⟨he, h.net q b k⟩

theorem SS.rsend (h : SS B F w0 w p most na La rp nb Lb) (hn : nb < 1000) (f t : Int) (v : Value) (bs : List Int) (hr : Reads w0 .u8 v bs) (hbs : bs.length ≤ 100) :
    Calls Try.prog 21 #[.pointer (some ⟨rp, 0, none⟩), .int .i64 f, .int .i64 t, v] w fun e w' => e = .returned (.tuple #[.int .i64 nb, .bool (decide ((Lb.length : Int) < most))]) ∧
      SS B F w0 w' p most na La rp (nb + 1) (sendL most Lb ⟨nb, f, t, bs, false⟩) ∧ Kept F w w' := by
  obtain ⟨rg, rv, rMs, h⟩ := h
  have hrp : rp ∈ ownN rp rg rMs := by simp [ownN]
  refine (rsendC h.r hn f t v bs (fun y hy => hr.below (h.e ▸ h.b.trans (hy.below (by simpa using (h.o rp hrp).1) h.q.size))) (by omega)).mono fun e w' ⟨he, hl⟩ => ⟨?_, ?_⟩
  · rw [he, ← h.m, List.length_map]
  · have := h.m
    subst this
    exact h.ref hl

theorem SS.dropd (h : SS B F w0 w p most na La rp nb Lb) (i : Int) :
    Calls Try.prog 15 #[.pointer (some ⟨p, 0, none⟩), .int .i64 i] w fun e w' => e = .returned (.tuple #[.int .i64 (tookG La i).id, .bool (isN La.length i)]) ∧
      SS B F w0 w' p most na (tookL La i) rp nb Lb ∧ Kept F w w' := by
  obtain ⟨rg, rv, rMs, h⟩ := h
  exact (dropC h.q i).mono fun e w' ⟨he, q, b, k⟩ => ⟨he, h.net q b k⟩

theorem SS.double (h : SS B F w0 w p most na La rp nb Lb) (hf : FrL La) (i : Int) :
    Calls Try.prog 16 #[.pointer (some ⟨p, 0, none⟩), .int .i64 i] w fun e w' => e = .returned (.bool (doubleB La most i)) ∧
      SS B F w0 w' p most na (doubleL La most i) rp nb Lb ∧ Kept F w w' := by
  obtain ⟨rg, rv, rMs, h⟩ := h
  exact (doubleC h.q (fun x hx => by have := hf x hx; omega) i).mono fun e w' ⟨he, q, b, k⟩ => ⟨he, h.net q b k⟩

theorem SS.spoil (h : SS B F w0 w p most na La rp nb Lb) (i a y : Int) :
    Calls Try.prog 17 #[.pointer (some ⟨p, 0, none⟩), .int .i64 i, .int .i64 a, .int .i64 y] w fun e w' => e = .returned (.bool (spoilB La i)) ∧
      SS B F w0 w' p most na (spoilL La i a y) rp nb Lb ∧ Kept F w w' := by
  obtain ⟨rg, rv, rMs, h⟩ := h
  exact (spoilC h.q i a y).mono fun e w' ⟨he, q, b, k⟩ => ⟨he, h.net q b k⟩

theorem SS.deliver (h : SS B F w0 w p most na La rp nb Lb) (i : Int) :
    Calls Try.prog 10 #[.pointer (some ⟨p, 0, none⟩), .int .i64 i] w fun e w' => ∃ fv, e = .returned (.tuple #[(tookG La i).val fv, .bool (isN La.length i)]) ∧ ∃ fb, Seg w' 5 1 fb fv (byC (tookG La i).fr) (tookG La i).fr.length ∧
      SS B F w0 w' p most na (tookL La i) rp nb Lb ∧ Kept F w w' := by
  obtain ⟨rg, rv, rMs, h⟩ := h
  exact (deliverC h.q i).mono fun e w' ⟨fv, he, fb, hf, q, b, k⟩ => ⟨fv, he, fb, hf, h.net (q.mono fun x hx => List.mem_append_right _ hx) b k⟩

theorem SS.rdeliver (h : SS B F w0 w p most na La rp nb Lb) (i : Int) :
    Calls Try.prog 24 #[.pointer (some ⟨rp, 0, none⟩), .int .i64 i] w fun e w' => ∃ fv, e = .returned (.tuple #[(tookG Lb i).val fv, .bool (isN Lb.length i)]) ∧ ∃ fb, Seg w' 5 1 fb fv (byC (tookG Lb i).fr) (tookG Lb i).fr.length ∧
      SS B F w0 w' p most na La rp nb (tookL Lb i) ∧ Kept F w w' ∧ Chg [rp] w w' := by
  obtain ⟨rg, rv, rMs, h⟩ := h
  have hm := h.m
  subst hm
  refine (rdeliverC h.r i).mono fun e w' ⟨fv, he, fb, hf, hl⟩ => ⟨fv, ?_, fb, hf, (h.ref hl).1, (h.ref hl).2, hl.c⟩
  rw [he, List.length_map]

theorem SS.rdouble (h : SS B F w0 w p most na La rp nb Lb) (i : Int) :
    Calls Try.prog 26 #[.pointer (some ⟨rp, 0, none⟩), .int .i64 i] w fun e w' => e = .returned (.bool (doubleB Lb most i)) ∧
      SS B F w0 w' p most na La rp nb (doubleL Lb most i) ∧ Kept F w w' := by
  obtain ⟨rg, rv, rMs, h⟩ := h
  have hm := h.m
  subst hm
  exact (rdoubleC h.r i).mono fun e w' ⟨he, hl⟩ => ⟨he, h.ref hl⟩

theorem SS.rspoil (h : SS B F w0 w p most na La rp nb Lb) (hf : FrL Lb) (i a y : Int) :
    Calls Try.prog 27 #[.pointer (some ⟨rp, 0, none⟩), .int .i64 i, .int .i64 a, .int .i64 y] w fun e w' => e = .returned (.bool (spoilB Lb i)) ∧
      SS B F w0 w' p most na La rp nb (spoilL Lb i a y) ∧ Kept F w w' := by
  obtain ⟨rg, rv, rMs, h⟩ := h
  have hm := h.m
  subst hm
  exact (rspoilC h.r (fun m hm => by have := hf m.g (List.mem_map.2 ⟨m, hm, rfl⟩); omega) i a y).mono fun e w' ⟨he, hl⟩ => ⟨he, h.ref hl⟩

theorem SS.lenN (h : SS B F w0 w p most na La rp nb Lb) : Calls Try.prog 12 #[.pointer (some ⟨p, 0, none⟩)] w fun e w' => e = .returned (.int .i64 La.length) ∧ w = w' := by
  obtain ⟨rg, rv, rMs, h⟩ := h
  exact Proofs.Ytphoijlpgplnkaa.lenN h.q

/-- A list that was answered: a row of its own. -/
structure LS (B : Nat) (w : World) (v : Value) (L : List GV) (g : Option Nat) (N : List GM) : Prop where
  m : N.map GM.g = L
  s : Seg w 31 5 g v (gmC N) N.length
  f : FrS w N
  n : (g.toList ++ N.filterMap GM.fb).Nodup
  b : ∀ x ∈ g.toList ++ N.filterMap GM.fb, B ≤ x ∧ x < w.heap.size

theorem LS.chg {v : Value} {L : List GV} {g : Option Nat} {N : List GM} (h : LS B w v L g N) (hc : Chg ([] : List Nat) w w') : LS B w' v L g N :=
  ⟨h.m, h.s.chg hc (by simp), h.f.chg hc, h.n, fun x hx => ⟨(h.b x hx).1, Nat.lt_of_lt_of_le (h.b x hx).2 hc.size⟩⟩

theorem SS.list (h : SS B F w0 w p most na La rp nb Lb) (hf : FrL La) : Calls Try.prog 28 #[.pointer (some ⟨p, 0, none⟩)] w fun e w' => ∃ v, e = .returned v ∧ ∃ g N, LS B w' v La g N ∧ SS B ((g.toList ++ N.filterMap GM.fb) ++ F) w0 w' p most na La rp nb Lb ∧ Chg ([] : List Nat) w w' := by
  have hs := h
  obtain ⟨rg, rv, rMs, h⟩ := h
  obtain ⟨g0, v0, Ms, hn, hm, hB, hBs, hF⟩ := h.q
  refine (listC hn fun m hm' => ?_).mono fun e w' ⟨v, he, g, N, hc⟩ => ⟨v, he, g, N, ?_, ?_, hc.c⟩
  · have := hf m.g (by rw [← hm]; exact List.mem_map.2 ⟨m, hm', rfl⟩)
    omega
  · have hl : N.length = Ms.length := hc.l
    have hx := hc.s
    rw [List.drop_length, List.append_nil] at hx
    have hmm := hc.m
    rw [List.take_length] at hmm
    refine ⟨hmm.trans hm, hl ▸ hx, hc.f, hc.n, fun x hx' => ⟨Nat.le_trans hBs (hc.b x hx'), ?_⟩⟩
    rcases List.mem_append.1 hx' with h1 | h1
    · exact hx.lt x (by simpa using h1)
    · exact hc.f.lt x h1
  · have hx := hc.s
    refine hs.add hc.c fun x hx' => ⟨hc.b x hx', ?_⟩
    rcases List.mem_append.1 hx' with h1 | h1
    · exact hx.lt x (by simpa using h1)
    · exact hc.f.lt x h1

theorem seg_grd {v : Value} {g : Option Nat} {N : List GM} (h : Seg w 31 5 g v (gmC N) N.length) (hf : FrS w N) : GRd w v N := by
  obtain ⟨a, c, rfl, h1, h2⟩ := h.len
  refine ⟨a, c, rfl, h2, h1, fun i hi => ?_, fun m hm => seg_reads (hf m hm)⟩
  obtain ⟨b, off, cap, _, he, hl, hc⟩ := h.cell (by decide) i hi
  simp only [Value.slice.injEq, true_and] at he
  obtain ⟨rfl, rfl⟩ := he
  refine ⟨b, off, rfl, hl, fun j u hu => (hc j u ?_ ?_).1⟩
  · have hj := (List.getElem?_eq_some_iff.1 hu).1
    simpa [GM.cells] using hj
  · have hj := (List.getElem?_eq_some_iff.1 hu).1
    rw [gmC_get N i j hi (by simpa [GM.cells] using hj)]
    exact hu

theorem SS.grd (h : SS B F w0 w p most na La rp nb Lb) : ∃ a c, w.cell? ⟨rp, 0, none⟩ = some (.slice a Lb.length c) ∧ rp < w.heap.size ∧ ∃ Ms, Ms.map GM.g = Lb ∧ GRd w (.slice a Lb.length c) Ms := by
  obtain ⟨rg, rv, rMs, h⟩ := h
  have hl : Lb.length = rMs.length := by rw [← h.m, List.length_map]
  have hg := seg_grd h.r.s h.r.f
  obtain ⟨a, c, rfl, _⟩ := h.r.s.len
  have hc := h.r.c
  exact ⟨a, c, by rw [hl]; simp [World.cell?, hc], lt_of_block hc, rMs, h.m, by rw [hl]; exact hg⟩

/-- What was answered, beside the document's list. -/
theorem LS.same {v : Value} {L : List GV} {g : Option Nat} {N : List GM} (h : LS B w v L g N) {v2 : Value} {Ms : List GM} (h2 : GRd w v2 Ms) (hm : Ms.map GM.g = L) : ∀ n, Calls Try.prog 25 #[v, v2] (w.drewN n) fun e w' => e = .returned (.bool true) ∧ ∃ m, w' = w.drewN m := fun n =>
  (sameGramsQ ((seg_grd h.s h.f).below (chg_drewN w n).nil_below) (h2.below (chg_drewN w n).nil_below)).mono fun e w' ⟨he, m, hm'⟩ => ⟨by rw [he, h.m, hm]; simp, n + m, by rw [hm', drewN_drewN]⟩

theorem LS.over {v : Value} {L : List GV} {g : Option Nat} {N : List GM} (h : LS B w v L g N) (hf : FrL L) (hs : SS B ((g.toList ++ N.filterMap GM.fb) ++ F) w0 w p most na La rp nb Lb) : Calls Try.prog 29 #[v] w fun e w' => e = .returned (.tuple #[]) ∧ SS B F w0 w' p most na La rp nb Lb :=
  (overGramsC h.s h.f h.n fun m hm => by have := hf m.g (by rw [← h.m]; exact List.mem_map.2 ⟨m, hm, rfl⟩); omega).mono fun e w' ⟨he, hc⟩ => ⟨he, (hs.turn hc fun x hx => ⟨List.mem_append_left _ hx, (h.b x hx).1⟩).drop fun x hx => List.mem_append_right _ hx⟩

end

theorem FrL.send {L : List GV} (h : FrL L) (m : Int) (g : GV) (hg : g.fr.length ≤ 100) : FrL (sendL m L g) := fun x hx => by
  unfold sendL at hx
  split at hx
  · rcases List.mem_append.1 hx with hx | hx
    · exact h x hx
    · rw [List.mem_singleton.1 hx]; exact hg
  · exact h x hx

theorem FrL.took {L : List GV} (h : FrL L) (i : Int) : FrL (tookL L i) := fun x hx => by
  unfold tookL at hx
  split at hx
  · exact h x (List.mem_of_mem_eraseIdx hx)
  · exact h x hx

theorem FrL.tookG {L : List GV} (h : FrL L) (i : Int) : (tookG L i).fr.length ≤ 100 := by
  unfold Proofs.Ytphoijlpgplnkaa.tookG
  split
  · rename_i hi
    exact h _ (getD_mem L _ (isN_lt hi).1)
  · decide

theorem FrL.double {L : List GV} (h : FrL L) (m i : Int) : FrL (doubleL L m i) := fun x hx => by
  unfold doubleL at hx
  split at hx
  · rename_i hb
    unfold doubleB at hb
    simp only [Bool.and_eq_true] at hb
    rcases List.mem_append.1 hx with hx | hx
    · exact h x hx
    · rw [List.mem_singleton.1 hx]; exact h _ (getD_mem L _ (isN_lt hb.1).1)
  · exact h x hx

theorem FrL.spoil {L : List GV} (h : FrL L) (i a y : Int) : FrL (spoilL L i a y) := fun x hx => by
  unfold spoilL at hx
  split at hx
  · rename_i hb
    unfold spoilB at hb
    simp only [Bool.and_eq_true] at hb
    rcases List.mem_or_eq_of_mem_set hx with hx | rfl
    · exact h x hx
    · have := h _ (getD_mem L _ (isN_lt hb.1).1)
      simpa [GV.spoilt, GV.turn] using this
  · exact h x hx

/-- What is lent stays while its block does; it may be written over. -/
theorem Lent.parts {w : World} {B : Nat} {v : Value} {xs : List Int} (h : Lent w B v xs) : ∃ g, v = .slice (some ⟨g, 0, none⟩) xs.length (xs.length + 3) ∧ B ≤ g ∧ g < w.heap.size ∧ (∀ w', Kept [g] w w' → Lent w' B v xs) ∧ Seg w 5 1 (some g) v (byC xs) xs.length := by
  obtain ⟨g, rfl, hm, ho⟩ := h
  have hlt := ho.lt g rfl
  refine ⟨g, rfl, hlt.1, hlt.2, fun w' hk => ⟨g, rfl, hm, ?_⟩, ?_⟩
  · obtain ⟨h1, ⟨h0, _⟩ | ⟨g', cap, cur, e, hB, hh, r⟩⟩ := ho
    · cases h0
    · simp only [Value.slice.injEq, Option.some.injEq, Addr.mk.injEq, and_true, true_and] at e
      obtain ⟨rfl, rfl⟩ := e
      exact ⟨h1, .inr ⟨g, _, cur, rfl, hB, (hk g (by simp)).trans hh, r⟩⟩
  · obtain ⟨g2, hs, _⟩ := Seg.of_owns ho
    have hg2 : g2 = some g := by
      obtain ⟨_, ⟨_, e, _⟩ | ⟨b, off, cap, cur, rfl, e, _⟩⟩ := hs
      · cases e
      · simp only [Value.slice.injEq, Option.some.injEq, Addr.mk.injEq] at e
        rw [e.1.1]
    subst hg2
    refine Seg.takeN hs xs.length (by omega) ?_
    simp [byC, List.map_append]

end Go.Proofs.Ytphoijlpgplnkaa
