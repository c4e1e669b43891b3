/-
  QueueFirst, the plain law: of each place the first push keeps its turn.
-/
import Derived.Test.YtjamdffaieocmaaQueueF
namespace Go.Proofs.Ytjamdffaieocmaa

def keyV (r : AskV) : Int := r.slot * 6 + r.shard

structure FInv (L : List AskV) (ws : List Int) (n : Int) : Prop where
  ok : QOk L
  keys : ws = L.map keyV
  old : ∀ r ∈ L, r.query < n

theorem FInv.nil : FInv [] [] 0 := ⟨⟨by simp, List.Pairwise.nil⟩, rfl, by simp⟩

theorem key_of {L : List AskV} (h : QOk L) (a : AskV) (ha : okV a = true) : (atF L a.slot a.shard).isSome = (L.map keyV).contains (keyV a) := by
  rw [Bool.eq_iff_iff]
  have ha' := (okV_iff a).1 ha
  constructor
  · intro hs
    obtain ⟨r, hr⟩ := Option.isSome_iff_exists.1 hs
    obtain ⟨h1, h2, h3⟩ := atF_some hr
    simp only [List.contains_iff_mem, List.mem_map]
    exact ⟨r, h1, by unfold keyV; rw [h2, h3]⟩
  · intro hs
    simp only [List.contains_iff_mem, List.mem_map] at hs
    obtain ⟨r, hr, he⟩ := hs
    have hv := (okV_iff r).1 (h.valid r hr)
    unfold keyV at he
    have e1 : r.slot = a.slot := by omega
    have e2 : r.shard = a.shard := by omega
    rw [← e1, ← e2, atF_of h hr]
    rfl

theorem put_keys (L : List AskV) (a : AskV) : (putL L a).map keyV = L.map keyV := by
  unfold putL
  rw [List.map_map]
  apply List.map_congr_left
  intro r _
  simp only [Function.comp]
  unfold keyV
  rw [(put_place a r).1, (put_place a r).2]

def firstA (k n : Int) : AskV := ⟨k / 6, n, k % 6, 1, 0, ByteArray.empty, 0, 0, false, 0, ByteArray.empty⟩

theorem first_push {L : List AskV} {ws : List Int} {n : Int} (h : FInv L ws n) (k : Int) (h0 : 0 ≤ k) (h1 : k < 24) :
    pushB L (firstA k n) = true ∧ FInv (pushL L (firstA k n)) (if ws.contains k then ws else ws ++ [k]) (n + 1) := by
  have hv : okV (firstA k n) = true := (okV_iff _).2 (by unfold firstA; simp only; omega)
  have hk : keyV (firstA k n) = k := by unfold keyV firstA; simp only; omega
  have hb : pushB L (firstA k n) = true := by
    unfold pushB
    rw [hv, Bool.true_and]
    split
    · rename_i x hx
      have := h.old x (atF_some hx).1
      have e : (firstA k n).query = n := rfl
      unfold olderB
      rw [e]
      simp
      omega
    · rfl
  refine ⟨hb, h.ok.push _, ?_, ?_⟩
  · have hq := key_of h.ok _ hv
    rw [hk, ← h.keys] at hq
    unfold pushL
    rw [if_pos hb]
    cases ha : atF L (firstA k n).slot (firstA k n).shard with
    | some x =>
      rw [ha] at hq
      rw [if_pos (by simpa using hq.symm), put_keys, h.keys]
    | none =>
      rw [ha] at hq
      rw [if_neg (by rw [← hq]; simp), List.map_append, h.keys]
      simp [hk]
  · intro r hr
    unfold pushL at hr
    rw [if_pos hb] at hr
    split at hr
    · rcases mem_putL hr with rfl | hr
      · unfold firstA; simp only; omega
      · have := h.old r hr; omega
    · rcases List.mem_append.1 hr with hr | hr
      · have := h.old r hr; omega
      · simp at hr
        subst hr
        unfold firstA; simp only; omega

def seenA (ws : List Int) : Array Value := Array.ofFn (n := 24) fun i => .bool (ws.contains (i.val : Int))

theorem seen_nil : seenA [] = #[.bool false, .bool false, .bool false, .bool false, .bool false, .bool false, .bool false, .bool false, .bool false, .bool false, .bool false, .bool false, .bool false, .bool false, .bool false, .bool false, .bool false, .bool false, .bool false, .bool false, .bool false, .bool false, .bool false, .bool false] := by
  kernel_rfl

theorem seen_size (ws : List Int) : (seenA ws).size = 24 := by simp [seenA]

theorem seen_get (ws : List Int) (k : Nat) (h : k < 24) : (seenA ws)[k]? = some (.bool (ws.contains (k : Int))) := by
  simp [seenA, h]

theorem seen_set (ws : List Int) (k : Nat) (h : k < 24) : (seenA ws).setIfInBounds k (.bool true) = seenA (if ws.contains (k : Int) then ws else ws ++ [(k : Int)]) := by
  apply Array.ext
  · simp [seenA]
  · intro i h1 h2
    simp [seenA] at h1
    rw [Array.getElem_setIfInBounds (by rw [seen_size]; exact h1)]
    simp only [seenA, Array.getElem_ofFn]
    by_cases e : k = i
    · subst e
      rw [if_pos rfl]
      split
      · rename_i hc; rw [hc]
      · simp
    · rw [if_neg e]
      split
      · rfl
      · have : (i : Int) ≠ (k : Int) := by omega
        simp [this]

end Go.Proofs.Ytjamdffaieocmaa
