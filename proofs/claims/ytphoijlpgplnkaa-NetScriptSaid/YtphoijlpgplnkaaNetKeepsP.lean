/-
  NetKeeps, in plain Lean: what a datagram may be, of what was sent.
-/
import Derived.Test.YtphoijlpgplnkaaNetAct
import Derived.Test.YtphoijlpgplnkaaNetDrop
import Derived.Test.YtphoijlpgplnkaaNetSpoilC
import Derived.Test.YtphoijlpgplnkaaNetDoubleC
namespace Go.Proofs.Ytphoijlpgplnkaa
open Go.RowKit Go.ChangeMaps

/-- What was sent: a view, and the bytes that it reads as. -/
abbrev KV := Value × List Int

def origK (K : List KV) (g : GV) : List Int := (K.getD g.id.toNat default).2

structure GoodG (K : List KV) (g : GV) : Prop where
  i0 : 0 ≤ g.id
  i1 : g.id < K.length
  f : g.frm = 0
  t : g.to = 1
  a : g.sp = false → g.fr = origK K g
  b : g.sp = true → ∃ j z, j < (origK K g).length ∧ z ≠ (origK K g).getD j 0 ∧ g.fr = (origK K g).set j z

theorem GoodG.len {K : List KV} {g : GV} (h : GoodG K g) : g.fr.length = (origK K g).length := by
  cases hs : g.sp
  · rw [h.a hs]
  · obtain ⟨j, z, _, _, e⟩ := h.b hs
    rw [e, List.length_set]

theorem origK_snoc {K : List KV} {g : GV} (x : KV) (h0 : 0 ≤ g.id) (h : g.id < K.length) : origK (K ++ [x]) g = origK K g := by
  unfold origK
  have : g.id.toNat < K.length := by omega
  simp [List.getD_eq_getElem?_getD, List.getElem?_append_left this]

theorem GoodG.snoc {K : List KV} {g : GV} (h : GoodG K g) (x : KV) : GoodG (K ++ [x]) g := by
  have e := origK_snoc x h.i0 h.i1
  exact ⟨h.i0, by have := h.i1; simp; omega, h.f, h.t, fun hs => by rw [e]; exact h.a hs, fun hs => by rw [e]; exact h.b hs⟩

theorem goodG_sent (K : List KV) (v : Value) (bs : List Int) : GoodG (K ++ [(v, bs)]) ⟨K.length, 0, 1, bs, false⟩ := by
  refine ⟨by simp, by simp only [List.length_append, List.length_singleton]; omega, rfl, rfl, fun _ => ?_, fun h => by cases h⟩
  simp [origK, List.getD_eq_getElem?_getD]

theorem spByte_ne (b y : Int) : spByte b y ≠ b := by
  unfold spByte
  have h1 : IntKind.u64.wrap y = y % 18446744073709551616 := rfl
  have h2 : (0 : Int) ≤ y % 18446744073709551616 := Int.emod_nonneg _ (by omega)
  rw [h1, Int.tmod_eq_emod_of_nonneg h2]
  generalize y % 18446744073709551616 = u at *
  have h3 : IntKind.u64.wrap (1 + u % 255) = (1 + u % 255) % 18446744073709551616 := rfl
  rw [h3]
  have h4 : (1 + u % 255) % 18446744073709551616 % 256 = 1 + u % 255 := by omega
  rw [h4]
  obtain ⟨v, hv⟩ : ∃ v : Nat, (v : Int) = 1 + u % 255 := ⟨(1 + u % 255).toNat, by omega⟩
  rw [← hv]
  have hv1 : 1 ≤ v ∧ v ≤ 255 := by omega
  show IntKind.u8.wrap _ ≠ b
  intro e
  have hw : ∀ n : Nat, n < 256 → IntKind.u8.wrap (n : Int) = n := fun n hn => by
    show (n : Int) % 256 = n
    omega
  have hlt := (BitVec.ofInt 8 b ^^^ BitVec.ofInt 8 (v : Int)).isLt
  have e2 : ((BitVec.ofInt 8 b ^^^ BitVec.ofInt 8 (v : Int)).toNat : Int) = b := (hw _ hlt).symm.trans e
  have e3 : BitVec.ofInt 8 b = BitVec.ofInt 8 b ^^^ BitVec.ofInt 8 (v : Int) := by
    conv => lhs; rw [← e2]
    rw [BitVec.ofInt_natCast, BitVec.ofNat_toNat]
    simp
  have e4 : BitVec.ofInt 8 (v : Int) = 0#8 := by
    have := congrArg (fun x => BitVec.ofInt 8 b ^^^ x) e3
    simp only [← BitVec.xor_assoc, BitVec.xor_self, BitVec.zero_xor] at this
    exact this.symm
  rw [BitVec.ofInt_natCast] at e4
  have := congrArg BitVec.toNat e4
  simp at this
  omega

theorem GoodG.spoilt {K : List KV} {g : GV} (h : GoodG K g) (hs : g.sp = false) (hf : g.fr ≠ []) (a y : Int) : GoodG K (g.spoilt a y) := by
  have hl : 0 < g.fr.length := List.length_pos_iff.2 hf
  have e := h.a hs
  have hi : spIdx a g.fr.length < g.fr.length := by
    have := low_bd' a g.fr.length hl
    unfold spIdx
    omega
  refine ⟨h.i0, h.i1, h.f, h.t, (fun x => by cases x), fun _ => ⟨spIdx a g.fr.length, spByte (g.fr.getD (spIdx a g.fr.length) 0) y, ?_, ?_, ?_⟩⟩
  · show _ < (origK K g).length
    rw [← e]; exact hi
  · show _ ≠ (origK K g).getD _ 0
    rw [← e]; exact spByte_ne _ _
  · show g.fr.set _ _ = (origK K g).set _ _
    rw [← e]

def AllG (K : List KV) (L : List GV) : Prop := ∀ g ∈ L, GoodG K g

theorem getD_mem (L : List GV) (k : Nat) (h : k < L.length) : L.getD k default ∈ L := by simp [List.getD_eq_getElem?_getD, h]

theorem AllG.snoc {K : List KV} {L : List GV} (h : AllG K L) (x : KV) : AllG (K ++ [x]) L := fun g hg => (h g hg).snoc x
theorem AllG.send {K : List KV} {L : List GV} (h : AllG K L) (m : Int) (v : Value) (bs : List Int) : AllG (K ++ [(v, bs)]) (sendL m L ⟨K.length, 0, 1, bs, false⟩) := fun g hg => by
  unfold sendL at hg
  split at hg
  · rcases List.mem_append.1 hg with hg | hg
    · exact h.snoc _ g hg
    · rw [List.mem_singleton.1 hg]; exact goodG_sent K v bs
  · exact h.snoc _ g hg
theorem AllG.took {K : List KV} {L : List GV} (h : AllG K L) (i : Int) : AllG K (tookL L i) := fun g hg => by
  unfold tookL at hg
  split at hg
  · exact h g (List.mem_of_mem_eraseIdx hg)
  · exact h g hg
theorem isN_lt {n : Nat} {i : Int} (h : isN n i = true) : i.toNat < n ∧ 0 ≤ i := by
  unfold isN at h
  simp at h
  omega
theorem AllG.tookG {K : List KV} {L : List GV} (h : AllG K L) (i : Int) (hi : isN L.length i = true) : GoodG K (tookG L i) := by
  unfold Proofs.Ytphoijlpgplnkaa.tookG
  rw [if_pos hi]
  exact h _ (getD_mem L _ (isN_lt hi).1)
theorem AllG.double {K : List KV} {L : List GV} (h : AllG K L) (m i : Int) : AllG K (doubleL L m i) := fun g hg => by
  unfold doubleL at hg
  split at hg
  next hb =>
    unfold doubleB at hb
    simp only [Bool.and_eq_true] at hb
    rcases List.mem_append.1 hg with hg | hg
    · exact h g hg
    · rw [List.mem_singleton.1 hg]; exact h _ (getD_mem L _ (isN_lt hb.1).1)
  next => exact h g hg
theorem AllG.spoil {K : List KV} {L : List GV} (h : AllG K L) (i a y : Int) : AllG K (spoilL L i a y) := fun g hg => by
  unfold spoilL at hg
  split at hg
  next hb =>
    unfold spoilB at hb
    simp only [Bool.and_eq_true, Bool.not_eq_true', List.isEmpty_eq_false_iff] at hb
    rcases List.mem_or_eq_of_mem_set hg with hg | hg
    · exact h g hg
    · rw [hg]; exact (h _ (getD_mem L _ (isN_lt hb.1).1)).spoilt hb.2.2 hb.2.1 a y
  next => exact h g hg

/-- How many bytes are unlike, up to the j-th. -/
def unl (x o : List Int) : Nat → Nat
  | 0 => 0
  | j + 1 => unl x o j + if x.getD j 0 = o.getD j 0 then 0 else 1

theorem unl_same (o : List Int) : ∀ j, unl o o j = 0
  | 0 => rfl
  | j + 1 => by simp [unl, unl_same o j]

theorem unl_set (o : List Int) (k : Nat) (z : Int) (hk : k < o.length) (hz : z ≠ o.getD k 0) : ∀ j, unl (o.set k z) o j = if k < j then 1 else 0
  | 0 => by simp [unl]
  | j + 1 => by
    rw [unl, unl_set o k z hk hz j]
    by_cases h : k = j
    · subst h
      have : (o.set k z).getD k 0 = z := by simp [List.getD_eq_getElem?_getD, hk]
      rw [this, if_neg hz]
      simp
    · have : (o.set k z).getD j 0 = o.getD j 0 := by simp [List.getD_eq_getElem?_getD, List.getElem?_set, h]
      rw [this, if_pos rfl]
      by_cases h2 : k < j
      · rw [if_pos h2, if_pos (by omega)]
      · rw [if_neg h2, if_neg (by omega)]

theorem GoodG.unl {K : List KV} {g : GV} (h : GoodG K g) : unl g.fr (origK K g) g.fr.length = if g.sp then 1 else 0 := by
  cases hs : g.sp
  · rw [h.a hs, unl_same]; rfl
  · have hl := h.len
    obtain ⟨j, z, hj, hz, e⟩ := h.b hs
    rw [hl, e, unl_set _ _ _ hj hz, if_pos hj]
    rfl

theorem unl_le (x o : List Int) : ∀ j, Proofs.Ytphoijlpgplnkaa.unl x o j ≤ j
  | 0 => Nat.le_refl _
  | j + 1 => by
    have := unl_le x o j
    simp only [Proofs.Ytphoijlpgplnkaa.unl]
    split <;> omega

end Go.Proofs.Ytphoijlpgplnkaa
