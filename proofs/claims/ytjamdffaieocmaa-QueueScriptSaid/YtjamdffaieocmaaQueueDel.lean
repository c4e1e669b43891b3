/-
  The queue: what Stop asks of each place, and takes off the map.
-/
import Derived.Test.YtjamdffaieocmaaQueueAll
namespace Go.Proofs.Ytjamdffaieocmaa
open Go.RowKit Go.ChangeMaps

/-- The blocks that Stop's function captures, and the map. -/
structure DelAt (w : World) (p b sb qb rb : Nat) (slot query : Int) : Prop where
  q : w.heap[qb]? = some (.cells #[.pointer (some ⟨p, 0, none⟩)] 24 (0, 0))
  s : w.heap[sb]? = some (.cells #[.int .i64 slot] 3 (0, 0))
  r : w.heap[rb]? = some (.cells #[.int .i64 query] 3 (0, 0))
  m : w.cell? ⟨p, 1, none⟩ = some (.map (some b))
  p : p < w.heap.size

theorem DelAt.chg {w w' : World} {p b sb qb rb : Nat} {slot query : Int} {S : List Nat} (h : DelAt w p b sb qb rb slot query) (hc : Chg S w w') (h1 : p ∉ S) (h2 : sb ∉ S) (h3 : qb ∉ S) (h4 : rb ∉ S) : DelAt w' p b sb qb rb slot query :=
  ⟨hc.at h.q h3, hc.at h.s h2, hc.at h.r h4, (World.cell?_of_block (hc.block p h.p h1)).trans h.m, Nat.lt_of_lt_of_le h.p hc.size⟩

theorem field_ask (a1 a2 a3 a4 a5 : Int) (a6 : ByteArray) (a7 a8 : Int) (a9 : Bool) (a10 : Int) (a11 : ByteArray) (W : World) :
    (Instr.field 32 (.agg #[.int .i64 a1, .int .i64 a2, .int .i64 a3, .int .i64 a4, .int .i64 a5, .string a6, .int .i64 a7, .int .i64 a8, .bool a9, .int .i64 a10, .string a11]) 1).run Try.prog W = .ok (.int .i64 a2) W := by
  first | kernel_rfl | rfl

set_option maxRecDepth 100000 in
set_option maxHeartbeats 4000000 in
theorem delNo {w : World} {p b sb qb rb : Nat} {slot query : Int} {f : Int → Int → Option AskV} {n : Nat} (h : DelAt w p b sb qb rb slot query) (hm : MapQ w b f n) (x y : Int) (hx : wfI x) (hy : wfI y) (r : AskV) (hr : f x y = some r)
    (ho : ¬ (x = slot ∧ r.query ≤ query)) :
    Calls Try.prog 23 #[.agg #[.int .i64 x, .int .i64 y], .pointer (some ⟨sb, 0, none⟩), .pointer (some ⟨qb, 0, none⟩), .pointer (some ⟨rb, 0, none⟩)] w fun e w' => e = .returned (.bool false) ∧ Below w.heap.size w w' := by
  obtain ⟨a1, a2, a3, a4, a5, a6, a7, a8, a9, a10, a11⟩ := r
  obtain ⟨u, hu⟩ : ∃ u, u = w.alloc (.cells #[.int .i64 x, .int .i64 y] 56) := ⟨_, rfl⟩
  have gu : Chg ([] : List Nat) w u := hu ▸ (Chg.refl _ _).alloc _
  have hd := h.chg gu (by simp) (by simp) (by simp) (by simp)
  have hpl : u.heap[w.heap.size]? = some (.cells #[.int .i64 x, .int .i64 y] 56 (0, 0)) := hu ▸ heap_alloc_new _ _
  have hmu := hm.same (gu.block b hm.lt (by simp))
  have hlook : (Instr.lookup 50 (.map (some b)) (.agg #[.int .i64 x, .int .i64 y]) false).run Try.prog u.drew = .ok (.agg #[.int .i64 a1, .int .i64 a2, .int .i64 a3, .int .i64 a4, .int .i64 a5, .string a6, .int .i64 a7, .int .i64 a8, .bool a9, .int .i64 a10, .string a11]) u.drew := by
    have := (MapQ.same (w' := u.drew) hmu rfl).look hx hy
    rw [hr] at this
    exact this
  have hfld := field_ask a1 a2 a3 a4 a5 a6 a7 a8 a9 a10 a11 u.drew
  have k0 : u.cell? ⟨w.heap.size, 0, none⟩ = some (.int .i64 x) := by simp [World.cell?, hpl]
  have k1 : u.cell? ⟨w.heap.size, 1, none⟩ = some (.int .i64 y) := by simp [World.cell?, hpl]
  have k2 : u.cell? ⟨sb, 0, none⟩ = some (.int .i64 slot) := by simp [World.cell?, hd.s]
  have k3 : u.cell? ⟨qb, 0, none⟩ = some (.pointer (some ⟨p, 0, none⟩)) := by simp [World.cell?, hd.q]
  have k4 : u.cell? ⟨rb, 0, none⟩ = some (.int .i64 query) := by simp [World.cell?, hd.r]
  have k5 := hd.m
  have l1 := hd.p
  have l2 := lt_of_block hd.s
  have l3 := lt_of_block hd.q
  have l4 := lt_of_block hd.r
  have HU := Lib.hid hu
  have GU := Lib.hid gu
  have HD := Lib.hid hd
  have HMU := Lib.hid hmu
  have HPL := Lib.hid hpl
  clear hu gu hd hpl hmu hm hr h
  simp only at ho
  by_cases e : x = slot
  · have e2 : decide (a2 ≤ query) = false := by simp; omega
    have e1 : (x == slot) = true := by simp [e]
    clear e ho hx hy
    go_enter Try.func23, Try.ntmps23
    go_upto_region 1 with fail
    rw [← HU.out]
    go_region
    all_goals
      go_wp2
      go_ret
      exact ⟨rfl, (GU.out.drew).nil_below⟩
  · have e1 : (x == slot) = false := by simp [e]
    clear e ho hx hy
    go_enter Try.func23, Try.ntmps23
    go_upto_region 1 with fail
    rw [← HU.out]
    go_region
    all_goals
      go_wp2
      go_ret
      exact ⟨rfl, (GU.out.drew).nil_below⟩

set_option maxRecDepth 100000 in
set_option maxHeartbeats 4000000 in
theorem delYes {w : World} {p b sb qb rb : Nat} {slot query : Int} {f : Int → Int → Option AskV} {n : Nat} (h : DelAt w p b sb qb rb slot query) (hm : MapQ w b f n) (x y : Int) (hx : wfI x) (hy : wfI y) (r : AskV) (hr : f x y = some r)
    (ho1 : x = slot) (ho2 : r.query ≤ query) :
    Calls Try.prog 23 #[.agg #[.int .i64 x, .int .i64 y], .pointer (some ⟨sb, 0, none⟩), .pointer (some ⟨qb, 0, none⟩), .pointer (some ⟨rb, 0, none⟩)] w fun e w' => e = .returned (.bool true) ∧
      (∀ g : Int → Int → Option AskV, g x y = none → (∀ x' y', x' ≠ x ∨ y' ≠ y → g x' y' = f x' y') → MapQ w' b g (n - 1)) ∧ Chg [b] w w' := by
  obtain ⟨a1, a2, a3, a4, a5, a6, a7, a8, a9, a10, a11⟩ := r
  obtain ⟨u, hu⟩ : ∃ u, u = w.alloc (.cells #[.int .i64 x, .int .i64 y] 56) := ⟨_, rfl⟩
  have gu : Chg ([] : List Nat) w u := hu ▸ (Chg.refl _ _).alloc _
  have hd := h.chg gu (by simp) (by simp) (by simp) (by simp)
  have hpl : u.heap[w.heap.size]? = some (.cells #[.int .i64 x, .int .i64 y] 56 (0, 0)) := hu ▸ heap_alloc_new _ _
  have hmu := hm.same (gu.block b hm.lt (by simp))
  have hlook : (Instr.lookup 50 (.map (some b)) (.agg #[.int .i64 x, .int .i64 y]) false).run Try.prog u.drew = .ok (.agg #[.int .i64 a1, .int .i64 a2, .int .i64 a3, .int .i64 a4, .int .i64 a5, .string a6, .int .i64 a7, .int .i64 a8, .bool a9, .int .i64 a10, .string a11]) u.drew := by
    have := (MapQ.same (w' := u.drew) hmu rfl).look hx hy
    rw [hr] at this
    exact this
  have hfld := field_ask a1 a2 a3 a4 a5 a6 a7 a8 a9 a10 a11 u.drew
  have k0 : u.cell? ⟨w.heap.size, 0, none⟩ = some (.int .i64 x) := by simp [World.cell?, hpl]
  have k1 : u.cell? ⟨w.heap.size, 1, none⟩ = some (.int .i64 y) := by simp [World.cell?, hpl]
  have k2 : u.cell? ⟨sb, 0, none⟩ = some (.int .i64 slot) := by simp [World.cell?, hd.s]
  have k3 : u.cell? ⟨qb, 0, none⟩ = some (.pointer (some ⟨p, 0, none⟩)) := by simp [World.cell?, hd.q]
  have k4 : u.cell? ⟨rb, 0, none⟩ = some (.int .i64 query) := by simp [World.cell?, hd.r]
  have k5 := hd.m
  have l1 := hd.p
  have l2 := lt_of_block hd.s
  have l3 := lt_of_block hd.q
  have l4 := lt_of_block hd.r
  have HU := Lib.hid hu
  have GU := Lib.hid gu
  have HD := Lib.hid hd
  have HMU := Lib.hid hmu
  have HPL := Lib.hid hpl
  simp only at ho2
  have e2 : decide (a2 ≤ query) = true := by simp; omega
  have e1 : (x == slot) = true := by simp [ho1]
  have HR := Lib.hid hr
  have HX := Lib.hid hx
  have HY := Lib.hid hy
  clear hu gu hd hpl hmu hm h hr ho1 ho2 hx hy
  go_enter Try.func23, Try.ntmps23
  go_upto_region 1 with fail
  rw [← HU.out]
  go_region
  all_goals
    go_upto_region 3 with fail
    generalize hV : World.drew _ = v
    have gv : Chg ([] : List Nat) u v := by rw [← hV]; exact (Chg.refl _ _).drew
    have dv := HD.out.chg gv (by simp) (by simp) (by simp) (by simp)
    have hpv := gv.at HPL.out (by simp)
    have hmv := HMU.out.same (gv.block b HMU.out.lt (by simp))
    obtain ⟨w2, hdel, hnew, ht⟩ := (MapQ.same (w' := v.drew) hmv rfl).drop HX.out HY.out
    have hdel' : ∀ ty, (Builtin.delete_ #[50, 56] ty #[.map (some b), .agg #[.int .i64 x, .int .i64 y]]).run Try.prog v.drew = .ok (.tuple #[]) w2 := hdel
    have gT : Chg [b] w w2 := ((GU.out.trans gv).mono (by simp)).trans (((Chg.refl _ v).drew).trans (Chg.of_grown ht.grown))
    have j0 : v.cell? ⟨w.heap.size, 0, none⟩ = some (.int .i64 x) := by simp [World.cell?, hpv]
    have j1 : v.cell? ⟨w.heap.size, 1, none⟩ = some (.int .i64 y) := by simp [World.cell?, hpv]
    have j3 : v.cell? ⟨qb, 0, none⟩ = some (.pointer (some ⟨p, 0, none⟩)) := by simp [World.cell?, dv.q]
    have j5 := dv.m
    have q1 := dv.p
    have q2 := lt_of_block dv.q
    rw [HR.out] at hnew
    have HNEW := Lib.hid hnew
    have GT := Lib.hid gT
    clear hV gv dv hpv hmv hdel hnew ht gT k0 k1 k2 k3 k4 k5 hlook
    go_region
    all_goals
      go_wp2
      go_ret
      exact ⟨rfl, fun g h1 h2 => by simpa using HNEW.out g h1 h2, GT.out⟩

end Go.Proofs.Ytjamdffaieocmaa
