/-
  Slots: contracts of its functions.
-/
import Derived.Test.YtjdhcclhlpeipaaMapZ
import Derived.Test.YtjdhcclhlpeipaaSlotsP
import Derived.Test.YtjdhcclhlpeipaaTxA
import Derived.BigRegion
import Derived.Deep.RegionLaw
namespace Go.Proofs.Ytjdhcclhlpeipaa
open Go.RowKit Go.ChangeMaps Utf

def mayV (s : ByteArray) (k n : Int) : Bool := askedV s.data.toList && decide (0 ≤ k) && decide (k ≤ 4) && decide (1 ≤ n) && decide (n ≤ 10)

set_option maxHeartbeats 1000000 in
theorem mayP (s : ByteArray) (k n : Int) (w : World) (hs : s.size ≤ maxLen) :
    Calls Try.prog 13 #[.agg #[.string s, .int .i64 k, .int .i64 n]] w fun e w' => e = .returned (.bool (mayV s k n)) ∧ Below w.heap.size w w' := by
  unfold mayV
  generalize hv : askedV s.data.toList = v
  have hask : ∀ w, Calls Try.prog 24 #[.string s] w fun e w' => e = .returned (.bool v) ∧ Below w.heap.size w w' := fun w => hv ▸ askedP s w hs
  clear hv
  cases v <;> by_cases h1 : 0 ≤ k <;> by_cases h2 : k ≤ 4 <;> by_cases h3 : 1 ≤ n <;> by_cases h4 : n ≤ 10
  all_goals
    go_enter Try.func13, Try.ntmps13
    go_wp2_with (go_at_call 24; refine calls_ext (hask _) ?_; intro u)
    all_goals (try omega)
    all_goals go_ret
    all_goals exact ⟨ret_bool (by simp [*] <;> omega), below_ext ((Below.refl _ _).alloc (Nat.le_refl _) _) (by simp) _⟩

/-- What the program's Slots behind the pointer holds. -/
def SlotsAt (w : World) (p a b : Nat) (who : List Int) (last : Int) : Prop :=
  w.heap[p]? = some (.cells #[.int .i64 who.length, .int .i64 last, .map (some a), .map (some b)] 55 (0, 0)) ∧ MapZ w a (ofF who) (cntF who) ∧ MapZ w b (atF who) (cntF who) ∧
    p ≠ a ∧ p ≠ b ∧ a ≠ b ∧ SlotsOk who last ∧ who.length ≤ 4 ∧ last < 1000000000

theorem SlotsAt.chg {w w' : World} {p a b : Nat} {who : List Int} {last : Int} {S : List Nat} (h : SlotsAt w p a b who last) (g : Chg S w w') (hp : p ∉ S) (ha : a ∉ S) (hb : b ∉ S) : SlotsAt w' p a b who last :=
  ⟨g.at h.1 hp, h.2.1.same (g.block a h.2.1.lt ha), h.2.2.1.same (g.block b h.2.2.1.lt hb), h.2.2.2⟩

/-- The cells, as the walk reads them. -/
theorem SlotsAt.cells {w : World} {p a b : Nat} {who : List Int} {last : Int} (h : SlotsAt w p a b who last) :
    p < w.heap.size ∧ w.cell? ⟨p, 0, none⟩ = some (.int .i64 who.length) ∧ w.cell? ⟨p, 1, none⟩ = some (.int .i64 last) ∧ w.cell? ⟨p, 2, none⟩ = some (.map (some a)) ∧ w.cell? ⟨p, 3, none⟩ = some (.map (some b)) ∧
      w.frozen? ⟨p, 1, none⟩ = false := by
  have h := h.1
  refine ⟨lt_of_block h, ?_, ?_, ?_, ?_, ?_⟩ <;> simp [World.cell?, World.frozen?, h]

theorem ofC {w : World} {p a b : Nat} {who : List Int} {last : Int} (h : SlotsAt w p a b who last) (id : Int) (hid : wfI id) :
    Calls Try.prog 19 #[.pointer (some ⟨p, 0, none⟩), .int .i64 id] w fun e w' => e = .returned (.tuple #[.int .i64 ((ofF who id).getD 0), .bool (ofF who id).isSome]) ∧ w = w' := by
  obtain ⟨hp, c0, c1, c2, c3, f1⟩ := h.cells
  have hl := h.2.1.look_ok hid
  generalize (ofF who id).getD 0 = x at *
  generalize (ofF who id).isSome = y at *
  clear h
  go_enter Try.func19, Try.ntmps19
  go_wp2
  go_ret2
  exact ⟨rfl, rfl⟩

theorem countC {w : World} {p a b : Nat} {who : List Int} {last : Int} (h : SlotsAt w p a b who last) :
    Calls Try.prog 22 #[.pointer (some ⟨p, 0, none⟩)] w fun e w' => e = .returned (.int .i64 (cntF who)) ∧ w = w' := by
  obtain ⟨hp, c0, c1, c2, c3, f1⟩ := h.cells
  have hl := h.2.1.len
  generalize cntF who = x at *
  clear h
  go_enter Try.func22, Try.ntmps22
  go_wp2
  go_ret
  exact ⟨rfl, rfl⟩

theorem atC {w : World} {p a b : Nat} {who : List Int} {last : Int} (h : SlotsAt w p a b who last) (id : Int) (hid : wfI id) :
    Calls Try.prog 21 #[.pointer (some ⟨p, 0, none⟩), .int .i64 id] w fun e w' => e = .returned (.tuple #[.int .i64 ((atF who id).getD 0), .bool (atF who id).isSome]) ∧ w = w' := by
  obtain ⟨hp, c0, c1, c2, c3, f1⟩ := h.cells
  have hl := h.2.2.1.look_ok hid
  generalize (atF who id).getD 0 = x at *
  generalize (atF who id).isSome = y at *
  clear h
  go_enter Try.func21, Try.ntmps21
  go_wp2
  go_ret2
  exact ⟨rfl, rfl⟩

theorem lastC {w : World} {p a b : Nat} {who : List Int} {last : Int} (h : SlotsAt w p a b who last) :
    Calls Try.prog 14 #[.pointer (some ⟨p, 0, none⟩)] w fun e w' => e = .returned (.int .i64 last) ∧ w = w' := by
  obtain ⟨hp, c0, c1, c2, c3, f1⟩ := h.cells
  clear h
  go_enter Try.func14, Try.ntmps14
  go_wp2
  go_ret
  exact ⟨rfl, rfl⟩

end Go.Proofs.Ytjdhcclhlpeipaa
