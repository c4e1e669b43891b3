/-
  NetKeeps: the state, and what each call leaves of it.
-/
import Derived.Test.YtphoijlpgplnkaaNetKeepsP
import Derived.Test.YtphoijlpgplnkaaNetGreat
import Derived.Deep.RegionLaw
namespace Go.Proofs.Ytphoijlpgplnkaa
open Go.RowKit Go.ChangeMaps

/-- append, its run known, at an operation of a plain region. -/
theorem wpList_run {P : Program} {w : World} {ops : Array Oper} {rest : List Oper} {o : Oper} {a : Act} {Q : Exit → Act → World → Prop} (hg : o.guard = none) (s x : Operand) (t : TypeId)
    (ho : o.op = .call { callee := .builtin .append, args := #[s, x], argTypes := #[t, t] }) (v vx v' : Value) (w' : World) (hs : a.eval s = v) (hx : a.eval x = vx)
    (hrun : (Builtin.append_ #[t, t] o.type #[v, vx]).run P w = .ok v' w') (h : wpList P ops Q rest (a.put o.dst v') w') : wpList P ops Q (o :: rest) a w :=
  wpList_plain hg fun _ hK => by
    unfold Oper.wp
    simp [execOp, ho, resolve, invoke, builtin, hs, hx, hrun, Result.andThen]
    exact hK _ _ h

theorem infoSl : (Try.prog.info? 29).map (fun i => (i.zero, i.size, i.bytes)) = some (some (.slice none 0 0), 1, 24) := by kernel_rfl

/-- The net, what was sent (K in memory, G as told), and others' blocks F. -/
structure KS (B : Nat) (F : List Nat) (w0 w : World) (p : Nat) (K G : List KV) (L : List GV) (g2 : Option Nat) (v2 : Value) : Prop where
  q : NF B (F ++ g2.toList) w p 20 G.length L
  s : Seg w 29 1 g2 v2 (K.map Prod.fst) K.length
  r : ∀ k ∈ G, Reads w0 .u8 k.1 k.2 ∧ k.2.length ≤ 100
  g : AllG G L
  gb : ∀ x, g2 = some x → B ≤ x ∧ x ∉ F
  bl : Below B w0 w
  e : B = w0.heap.size

section
variable {B : Nat} {F : List Nat} {w0 w w' : World} {p : Nat} {K G : List KV} {L : List GV} {g2 : Option Nat} {v2 : Value}

theorem KS.chg (h : KS B F w0 w p K G L g2 v2) (hc : Chg [] w w') : KS B F w0 w' p K G L g2 v2 :=
  ⟨h.q.chg (hc.mono (by simp)), h.s.chg hc (by simp), h.r, h.g, h.gb, h.bl.trans (hc.below (by simp) h.q.size), h.e⟩

theorem KS.drop (h : KS B F w0 w p K G L g2 v2) : KS B [] w0 w p K G L g2 v2 :=
  ⟨h.q.mono fun x hx => List.mem_append_right _ (by simpa using hx), h.s, h.r, h.g, fun x hx => ⟨(h.gb x hx).1, by simp⟩, h.bl, h.e⟩

theorem KS.add (h : KS B F w0 w p K G L g2 v2) {b : Nat} (hc : Chg [] w w') (hb : w.heap.size ≤ b) (hb2 : b < w'.heap.size) : KS B (b :: F) w0 w' p K G L g2 v2 :=
  ⟨h.q.add (hc.mono (by simp)) hb hb2, h.s.chg hc (by simp), h.r, h.g, fun x hx => ⟨(h.gb x hx).1, by
    have := h.s.lt x hx
    simp only [List.mem_cons, not_or]
    exact ⟨by omega, (h.gb x hx).2⟩⟩, h.bl.trans (hc.below (by simp) h.q.size), h.e⟩

theorem KS.frl (h : KS B F w0 w p K G L g2 v2) : ∀ x ∈ L, x.fr.length ≤ 100 := fun x hx => by
  have hg := h.g x hx
  rw [hg.len]
  have i0 := hg.i0
  have i1 := hg.i1
  exact (h.r _ (by unfold KV at *; simp only [List.getD_eq_getElem?_getD]; rw [List.getElem?_eq_getElem (by omega)]; exact List.getElem_mem _)).2

theorem KS.turn (h : KS B F w0 w p K G L g2 v2) {G' : List KV} {L' : List GV} (q : NF B (F ++ g2.toList) w' p 20 G'.length L') (b : Below B w w') (k : Kept (F ++ g2.toList) w w')
    (r : ∀ k ∈ G', Reads w0 .u8 k.1 k.2 ∧ k.2.length ≤ 100) (g : AllG G' L') : KS B F w0 w' p K G' L' g2 v2 :=
  ⟨q, h.s.kept (k.mono fun x hx => List.mem_append_right _ hx), r, g, h.gb, h.bl.trans b, h.e⟩

theorem KS.send (h : KS B F w0 w p K G L g2 v2) (hn : G.length < 1000) (v : Value) (bs : List Int) (hr : Reads w0 .u8 v bs) (hbs : bs.length ≤ 100) :
    Calls Try.prog 9 #[.pointer (some ⟨p, 0, none⟩), .int .i64 0, .int .i64 1, v] w fun e w' => e = .returned (.tuple #[.int .i64 G.length, .bool (decide ((L.length : Int) < 20))]) ∧
      KS B F w0 w' p K (G ++ [(v, bs)]) (sendL 20 L ⟨G.length, 0, 1, bs, false⟩) g2 v2 ∧ Kept F w w' := by
  refine (sendC h.q (by omega) 0 1 v bs (hr.below (h.e ▸ h.bl)) (by omega)).mono fun e w' ⟨he, q, b, k⟩ => ⟨he, h.turn ?_ b k (fun k hk => ?_) (h.g.send 20 v bs), k.mono fun x hx => List.mem_append_left _ hx⟩
  · rw [List.length_append, List.length_singleton, Int.natCast_add]
    exact q
  · rcases List.mem_append.1 hk with hk | hk
    · exact h.r k hk
    · rw [List.mem_singleton.1 hk]; exact ⟨hr, hbs⟩

theorem KS.dropd (h : KS B F w0 w p K G L g2 v2) (i : Int) :
    Calls Try.prog 15 #[.pointer (some ⟨p, 0, none⟩), .int .i64 i] w fun e w' => e = .returned (.tuple #[.int .i64 (tookG L i).id, .bool (isN L.length i)]) ∧
      KS B F w0 w' p K G (tookL L i) g2 v2 ∧ Kept F w w' :=
  (dropC h.q i).mono fun e w' ⟨he, q, b, k⟩ => ⟨he, h.turn q b k h.r (h.g.took i), k.mono fun x hx => List.mem_append_left _ hx⟩

theorem KS.double (h : KS B F w0 w p K G L g2 v2) (i : Int) :
    Calls Try.prog 16 #[.pointer (some ⟨p, 0, none⟩), .int .i64 i] w fun e w' => e = .returned (.bool (doubleB L 20 i)) ∧
      KS B F w0 w' p K G (doubleL L 20 i) g2 v2 ∧ Kept F w w' :=
  (doubleC h.q (fun x hx => by have := h.frl x hx; omega) i).mono fun e w' ⟨he, q, b, k⟩ => ⟨he, h.turn q b k h.r (h.g.double 20 i), k.mono fun x hx => List.mem_append_left _ hx⟩

theorem KS.spoil (h : KS B F w0 w p K G L g2 v2) (i a y : Int) :
    Calls Try.prog 17 #[.pointer (some ⟨p, 0, none⟩), .int .i64 i, .int .i64 a, .int .i64 y] w fun e w' => e = .returned (.bool (spoilB L i)) ∧
      KS B F w0 w' p K G (spoilL L i a y) g2 v2 ∧ Kept F w w' :=
  (spoilC h.q i a y).mono fun e w' ⟨he, q, b, k⟩ => ⟨he, h.turn q b k h.r (h.g.spoil i a y), k.mono fun x hx => List.mem_append_left _ hx⟩

theorem KS.deliver (h : KS B F w0 w p K G L g2 v2) (i : Int) :
    Calls Try.prog 10 #[.pointer (some ⟨p, 0, none⟩), .int .i64 i] w fun e w' => ∃ fv, e = .returned (.tuple #[(tookG L i).val fv, .bool (isN L.length i)]) ∧ ∃ fb, Seg w' 5 1 fb fv (byC (tookG L i).fr) (tookG L i).fr.length ∧
      KS B F w0 w' p K G (tookL L i) g2 v2 ∧ Kept F w w' :=
  (deliverC h.q i).mono fun e w' ⟨fv, he, fb, hf, q, b, k⟩ => ⟨fv, he, fb, hf, h.turn (q.mono fun x hx => List.mem_append_right _ hx) b k h.r (h.g.took i), k.mono fun x hx => List.mem_append_left _ hx⟩

theorem KS.lenC (h : KS B F w0 w p K G L g2 v2) : L.length ≤ 20 ∧ Calls Try.prog 12 #[.pointer (some ⟨p, 0, none⟩)] w fun e w' => e = .returned (.int .i64 L.length) ∧ w = w' :=
  ⟨by have := h.q.len; omega, lenN h.q⟩

theorem KS.grow (h : KS B F w0 w p K G L g2 v2) (hK : K.length < 1000000) (r : KV) (ho : r.1.oneCell' = true) :
    ∃ v' t g', (∀ ty, (Builtin.append_ #[40, 40] ty #[v2, .slice (some ⟨w.heap.size, 0, none⟩) 1 1]).run Try.prog (w.alloc (.cells #[r.1] 29 (0, 0))) = .ok v' t) ∧ KS B F w0 t p (K ++ [r]) G L g' v' := by
  obtain ⟨i0, hi, hz0, hz1, hz2⟩ := info_parts infoSl
  have gl : Chg ([] : List Nat) w (w.alloc (.cells #[r.1] 29 (0, 0))) := (Chg.refl _ _).alloc _
  obtain ⟨v', t, g', hrun, hseg, hchg, hgg, _⟩ := (h.s.chg gl (by simp)).append (P := Try.prog) 40 i0 (.slice none 0 0) 24 Try.underlying40 hi hz0 hz1 hz2 rfl (by decide)
    ⟨w.heap.size, 0, none⟩ 1 1 (by decide) [r.1] rfl (fun j y hj => by exact cell_lit_list w _ _ j y hj) (fun u hu => by rw [List.mem_singleton.1 hu]; exact ho) (by unfold maxLen; omega) (by omega)
  refine ⟨v', t, g', hrun, ?_⟩
  have gt : Chg g2.toList w t := (gl.mono (by simp)).trans hchg
  have hsz := gl.size
  refine ⟨?_, ?_, h.r, h.g, ?_, ?_, h.e⟩
  · rcases hgg with e | ⟨x, e, hx⟩
    · rw [e]; exact h.q.chg (gt.mono fun y hy => List.mem_append_right _ hy)
    · rw [e]
      refine (h.q.add (x := x) (gt.mono fun y hy => List.mem_append_right _ hy) (Nat.le_trans hsz hx) (hseg.lt x e)).mono fun y hy => ?_
      rcases List.mem_append.1 hy with hy | hy
      · exact List.mem_cons_of_mem _ (List.mem_append_left _ hy)
      · simp at hy; simp [hy]
  · rw [List.map_append, List.length_append]
    exact hseg
  · intro x hx
    rcases hgg with e | ⟨y, e, hy⟩
    · exact h.gb x (by rw [← e]; exact hx)
    · rw [hx] at e
      injection e with e
      have := h.q.size
      refine ⟨by omega, fun e2 => ?_⟩
      obtain ⟨_, _, _, _, _, _, _, h5⟩ := h.q
      have := (h5 x (List.mem_append_left _ e2)).1
      omega
  · refine h.bl.trans (gt.below (fun x hx => ?_) h.q.size)
    rw [Option.mem_toList] at hx
    exact (h.gb x hx).1

end

end Go.Proofs.Ytphoijlpgplnkaa
