/-
  The edit distance of lists whose numbers are turned into others, unlike ones into unlike ones; the exclusive or.
-/
import Derived.Test.YtdlihgceokpkkaaLev
import Derived.WalkKit
namespace Go.Proofs.Ytdlihgceokpkkaa.Lev

theorem lev_map (f : Int → Int) : ∀ a b : List Int, (∀ x ∈ a, ∀ y ∈ b, f x = f y → x = y) → lev (a.map f) (b.map f) = lev a b
  | [], b, _ => by simp [lev_nil]
  | x :: a, [], _ => by simp [lev_nil']
  | x :: a, y :: b, h => by
    have h1 := lev_map f a (y :: b) fun x hx y hy => h x (List.mem_cons_of_mem _ hx) y hy
    have h2 := lev_map f (x :: a) b fun x hx y hy => h x hx y (List.mem_cons_of_mem _ hy)
    have h3 := lev_map f a b fun x hx y hy => h x (List.mem_cons_of_mem _ hx) y (List.mem_cons_of_mem _ hy)
    have hn : ne (f x) (f y) = ne x y := by
      unfold ne
      by_cases e : x = y
      · subst e; simp
      · rw [if_neg e, if_neg]
        exact fun e2 => e (h x List.mem_cons_self y List.mem_cons_self e2)
    simp only [List.map_cons] at h1 h2 ⊢
    rw [lev_cons, lev_cons, h1, h2, h3, hn]
termination_by a b => a.length + b.length

theorem xor_inj (x y c : Int) (hx : -2147483648 ≤ x ∧ x ≤ 2147483647) (hy : -2147483648 ≤ y ∧ y ≤ 2147483647) (h : bits .xor .i32 x c = bits .xor .i32 y c) : x = y := by
  have h' : (IntKind.i32.wrap ((BitVec.ofInt 32 x ^^^ BitVec.ofInt 32 c).toNat : Int)) = IntKind.i32.wrap ((BitVec.ofInt 32 y ^^^ BitVec.ofInt 32 c).toNat : Int) := h
  have key : (BitVec.ofInt 32 x ^^^ BitVec.ofInt 32 c).toNat = (BitVec.ofInt 32 y ^^^ BitVec.ofInt 32 c).toNat := by
    have l1 := (BitVec.ofInt 32 x ^^^ BitVec.ofInt 32 c).isLt
    have l2 := (BitVec.ofInt 32 y ^^^ BitVec.ofInt 32 c).isLt
    generalize (BitVec.ofInt 32 x ^^^ BitVec.ofInt 32 c).toNat = p at *
    generalize (BitVec.ofInt 32 y ^^^ BitVec.ofInt 32 c).toNat = q at *
    simp [IntKind.wrap, IntKind.bits, IntKind.signed] at h'
    omega
  have k2 : BitVec.ofInt 32 x ^^^ BitVec.ofInt 32 c = BitVec.ofInt 32 y ^^^ BitVec.ofInt 32 c := BitVec.eq_of_toNat_eq key
  have k3 : BitVec.ofInt 32 x = BitVec.ofInt 32 y := by
    have := congrArg (· ^^^ BitVec.ofInt 32 c) k2
    simpa [BitVec.xor_assoc] using this
  have k4 := congrArg BitVec.toInt k3
  rw [BitVec.toInt_ofInt, BitVec.toInt_ofInt] at k4
  simp [Int.bmod] at k4
  omega
end Go.Proofs.Ytdlihgceokpkkaa.Lev
