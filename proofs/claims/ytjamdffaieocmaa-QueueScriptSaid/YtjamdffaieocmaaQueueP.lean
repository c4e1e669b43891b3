/-
  The queue, the plain law: what waits, in order; what each call leaves.
-/
import Derived.Test.YtjamdffaieocmaaMapQ
namespace Go.Proofs.Ytjamdffaieocmaa

def atF (L : List AskV) (x y : Int) : Option AskV := L.find? (fun r => decide (r.slot = x) && decide (r.shard = y))
def okV (r : AskV) : Bool := decide (0 ≤ r.slot) && decide (r.slot < 4) && decide (0 ≤ r.shard) && decide (r.shard < 6)
def likeP (a r : AskV) : Bool := decide (r.slot = a.slot) && decide (r.shard = a.shard)
def apart (a b : AskV) : Prop := a.slot ≠ b.slot ∨ a.shard ≠ b.shard

structure QOk (L : List AskV) : Prop where
  valid : ∀ r ∈ L, okV r = true
  nodup : L.Pairwise apart

def olderB (x a : AskV) : Bool := decide (a.query < x.query) || (decide (x.query = a.query) && decide (a.seq < x.seq))
def putL (L : List AskV) (a : AskV) : List AskV := L.map (fun r => if likeP a r then a else r)
def pushB (L : List AskV) (a : AskV) : Bool := okV a && (match atF L a.slot a.shard with | some x => !olderB x a | none => true)
def pushL (L : List AskV) (a : AskV) : List AskV := if pushB L a then (match atF L a.slot a.shard with | some _ => putL L a | none => L ++ [a]) else L
def goneB (slot query : Int) (r : AskV) : Bool := decide (r.slot = slot) && decide (r.query ≤ query)
def stopL (L : List AskV) (slot query : Int) : List AskV := L.filter (fun r => !goneB slot query r)

theorem okV_iff (r : AskV) : okV r = true ↔ 0 ≤ r.slot ∧ r.slot < 4 ∧ 0 ≤ r.shard ∧ r.shard < 6 := by
  unfold okV; simp; omega

theorem atF_some {L : List AskV} {x y : Int} {r : AskV} (h : atF L x y = some r) : r ∈ L ∧ r.slot = x ∧ r.shard = y := by
  unfold atF at h
  have h1 := List.mem_of_find?_eq_some h
  have h2 := List.find?_some h
  simp at h2
  exact ⟨h1, h2⟩

theorem atF_none {L : List AskV} {x y : Int} : atF L x y = none ↔ ∀ r ∈ L, r.slot = x → r.shard ≠ y := by
  unfold atF
  rw [List.find?_eq_none]
  simp

theorem atF_of {L : List AskV} (h : QOk L) {r : AskV} (hr : r ∈ L) : atF L r.slot r.shard = some r := by
  have h2 := h.nodup
  clear h
  induction L with
  | nil => simp at hr
  | cons a l ih =>
    unfold atF
    rw [List.find?_cons]
    rw [List.pairwise_cons] at h2
    rcases List.mem_cons.1 hr with rfl | hr
    · simp
    · have := h2.1 r hr
      have hf : (decide (a.slot = r.slot) && decide (a.shard = r.shard)) = false := by
        simp
        intro e
        rcases this with h | h
        · exact absurd e h
        · exact h
      rw [hf]
      exact ih hr h2.2

theorem mem_putL {L : List AskV} {a r : AskV} (h : r ∈ putL L a) : r = a ∨ r ∈ L := by
  unfold putL at h
  obtain ⟨x, hx, rfl⟩ := List.mem_map.1 h
  split
  · exact .inl rfl
  · exact .inr hx

theorem put_place (a r : AskV) : (if likeP a r then a else r).slot = r.slot ∧ (if likeP a r then a else r).shard = r.shard := by
  split
  · rename_i h
    unfold likeP at h
    simp at h
    exact ⟨h.1.symm, h.2.symm⟩
  · exact ⟨rfl, rfl⟩

theorem QOk.push {L : List AskV} (h : QOk L) (a : AskV) : QOk (pushL L a) := by
  unfold pushL
  split
  · rename_i hb
    have hv : okV a = true := by unfold pushB at hb; simp at hb; exact hb.1
    split
    · refine ⟨fun r hr => ?_, ?_⟩
      · rcases mem_putL hr with rfl | hr
        · exact hv
        · exact h.valid r hr
      · unfold putL
        rw [List.pairwise_map]
        refine h.nodup.imp fun {x y} hxy => ?_
        unfold apart at hxy ⊢
        rw [(put_place a x).1, (put_place a x).2, (put_place a y).1, (put_place a y).2]
        exact hxy
    · rename_i hn
      refine ⟨fun r hr => ?_, ?_⟩
      · rcases List.mem_append.1 hr with hr | hr
        · exact h.valid r hr
        · simp at hr
          rw [hr]; exact hv
      · rw [List.pairwise_append]
        refine ⟨h.nodup, by simp, fun x hx y hy => ?_⟩
        simp at hy
        subst hy
        have := atF_none.1 hn x hx
        unfold apart
        by_cases e : x.slot = y.slot
        · exact .inr (this e)
        · exact .inl e
  · exact h

theorem QOk.tail {a : AskV} {L : List AskV} (h : QOk (a :: L)) : QOk L := ⟨fun r hr => h.valid r (List.mem_cons_of_mem _ hr), (List.pairwise_cons.1 h.nodup).2⟩
theorem QOk.filter {L : List AskV} (h : QOk L) (f : AskV → Bool) : QOk (L.filter f) := ⟨fun r hr => h.valid r (List.mem_filter.1 hr).1, h.nodup.filter f⟩

/-- What the map holds behind a push that is taken. -/
theorem atF_push {L : List AskV} {a : AskV} (hb : pushB L a = true) : atF (pushL L a) a.slot a.shard = some a ∧ ∀ x y, x ≠ a.slot ∨ y ≠ a.shard → atF (pushL L a) x y = atF L x y := by
  unfold pushL
  rw [if_pos hb]
  cases hx : atF L a.slot a.shard with
  | some x0 =>
    have key : ∀ l : List AskV, ∀ x y, atF (putL l a) x y = (atF l x y).map (fun r => if likeP a r then a else r) := fun l x y => by
      unfold atF putL
      rw [List.find?_map]
      congr 1
      apply congrArg (fun f => List.find? f l)
      funext r
      simp only [Function.comp, (put_place a r).1, (put_place a r).2]
    refine ⟨?_, fun x y hxy => ?_⟩
    · rw [key, hx]
      have := atF_some hx
      simp [likeP, this.2.1, this.2.2]
    · rw [key]
      cases hf : atF L x y with
      | none => rfl
      | some r =>
        have := atF_some hf
        have hl : likeP a r = false := by
          unfold likeP
          rw [this.2.1, this.2.2]
          simp
          intro e
          rcases hxy with h | h
          · exact absurd e h
          · exact h
        simp [hl]
  | none =>
    refine ⟨?_, fun x y hxy => ?_⟩
    · show atF (L ++ [a]) a.slot a.shard = some a
      unfold atF at hx ⊢
      rw [List.find?_append, hx]
      simp
    · show atF (L ++ [a]) x y = atF L x y
      unfold atF
      rw [List.find?_append]
      have : ([a].find? fun r => decide (r.slot = x) && decide (r.shard = y)) = none := by
        simp
        intro e
        rcases hxy with h | h
        · exact absurd e.symm h
        · exact fun e => h e.symm
      rw [this]
      simp

theorem atF_tail {a : AskV} {L : List AskV} (h : QOk (a :: L)) : atF L a.slot a.shard = none ∧ ∀ x y, x ≠ a.slot ∨ y ≠ a.shard → atF L x y = atF (a :: L) x y := by
  refine ⟨atF_none.2 fun r hr e => ?_, fun x y hxy => ?_⟩
  · have := (List.pairwise_cons.1 h.nodup).1 r hr
    rcases this with h | h
    · exact absurd e.symm h
    · exact fun e => h e.symm
  · unfold atF
    rw [List.find?_cons]
    have : (decide (a.slot = x) && decide (a.shard = y)) = false := by
      simp
      intro e
      rcases hxy with h | h
      · exact absurd e.symm h
      · exact fun e => h e.symm
    rw [this]

theorem pigeon : ∀ (n : Nat) (l : List Nat), l.Nodup → (∀ x ∈ l, x < n) → l.length ≤ n
  | 0, l, _, h => by
    cases l with
    | nil => simp
    | cons a l => exact absurd (h a (by simp)) (by omega)
  | n + 1, l, hn, h => by
    have h1 := pigeon n (l.erase n) (hn.erase n) (fun x hx => by
      have h2 := h x (List.mem_of_mem_erase hx)
      have h3 : x ≠ n := fun e => by
        subst e
        exact absurd hx (List.Nodup.not_mem_erase hn)
      omega)
    rw [List.length_erase] at h1
    split at h1 <;> omega

/-- Of each place there is one at most: so there are no more than there are places. -/
theorem QOk.small {L : List AskV} (h : QOk L) : L.length ≤ 24 := by
  have h1 : (L.map (fun r => (r.slot * 6 + r.shard).toNat)).Nodup := by
    rw [List.Nodup, List.pairwise_map]
    refine h.nodup.imp_of_mem fun {x y} hx hy hxy => ?_
    have a1 := (okV_iff x).1 (h.valid x hx)
    have a2 := (okV_iff y).1 (h.valid y hy)
    unfold apart at hxy
    omega
  have h2 := pigeon 24 _ h1 (fun n hn => by
    obtain ⟨r, hr, rfl⟩ := List.mem_map.1 hn
    have a1 := (okV_iff r).1 (h.valid r hr)
    omega)
  simpa using h2

end Go.Proofs.Ytjamdffaieocmaa
