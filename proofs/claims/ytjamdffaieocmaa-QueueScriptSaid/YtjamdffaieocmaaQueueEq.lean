/-
  Queue: '==' and '!=' on two asks.
-/
import Derived.Test.YtjamdffaieocmaaMapQ
import Derived.Laws.StructEq
import Derived.ChangeKeysEq
import Derived.ProofKit
namespace Go.Proofs.Ytjamdffaieocmaa
open Go.RowKit

deriving instance DecidableEq for AskV

def eqA (a b : AskV) : Bool := decide (a = b)

theorem eqA_iff (a b : AskV) : eqA a b = true ↔ a = b := by simp [eqA]

theorem bytes_beq (a b : ByteArray) : (a.toList == b.toList) = decide (a = b) := by
  rw [Bool.eq_iff_iff]
  rw [ByteArray.toList_eq, ByteArray.toList_eq]
  obtain ⟨⟨x⟩⟩ := a
  obtain ⟨⟨y⟩⟩ := b
  simp

theorem eqA_parts (x1 x2 x3 x4 x5 : Int) (x6 : ByteArray) (x7 x8 : Int) (x9 : Bool) (x10 : Int) (x11 : ByteArray) (y1 y2 y3 y4 y5 : Int) (y6 : ByteArray) (y7 y8 : Int) (y9 : Bool) (y10 : Int) (y11 : ByteArray) :
    eqA ⟨x1, x2, x3, x4, x5, x6, x7, x8, x9, x10, x11⟩ ⟨y1, y2, y3, y4, y5, y6, y7, y8, y9, y10, y11⟩ = (x1 == y1 && (x2 == y2 && (x3 == y3 && (x4 == y4 && (x5 == y5 && (x6.toList == y6.toList && (x7 == y7 && (x8 == y8 && (x9 == y9 && (x10 == y10 && x11.toList == y11.toList)))))))))) := by
  rw [bytes_beq, bytes_beq, Bool.eq_iff_iff]
  simp [eqA]

theorem eqF_cons {P : Program} {w : World} {d : Nat} {xs ys : Array Value} {f : Field} {fs : List Field} {a b : Value} {r q : Bool} (hn : f.name ≠ "_") (ha : (part f.type xs f.offset).run P w = .ok a w) (hb : (part f.type ys f.offset).run P w = .ok b w)
    (hr : (Op.equalIn d f.type a b).run P w = .ok r w) (hq : (Op.eqFields d xs ys fs).run P w = .ok q w) : (Op.eqFields d xs ys (f :: fs)).run P w = .ok (r && q) w := by
  rw [Op.eqFields, if_pos hn]
  simp only [Sem.run_bind, ha, hb, hr, Result.andThen_ok, Sem.run_ite]
  cases r <;> simp [hq]

set_option maxRecDepth 100000 in
set_option maxHeartbeats 4000000 in
theorem equalIn_ask (r s : AskV) (w : World) : (Op.equalIn 10000 32 r.val s.val).run Try.prog w = .ok (eqA r s) w := by
  obtain ⟨x1, x2, x3, x4, x5, x6, x7, x8, x9, x10, x11⟩ := r
  obtain ⟨y1, y2, y3, y4, y5, y6, y7, y8, y9, y10, y11⟩ := s
  rw [eqA_parts]
  show (Op.equalIn (9998 + 1 + 1) 32 (.agg #[.int .i64 x1, .int .i64 x2, .int .i64 x3, .int .i64 x4, .int .i64 x5, .string x6, .int .i64 x7, .int .i64 x8, .bool x9, .int .i64 x10, .string x11]) (.agg #[.int .i64 y1, .int .i64 y2, .int .i64 y3, .int .i64 y4, .int .i64 y5, .string y6, .int .i64 y7, .int .i64 y8, .bool y9, .int .i64 y10, .string y11])).run Try.prog w = _
  have hA : Try.prog.underlying 32 = some (.struct (Try.prog.fieldsOf 32)) := by kernel_rfl
  have hI : Try.prog.underlying 30 = some (.struct (Try.prog.fieldsOf 30)) := by kernel_rfl
  rw [run_equalIn_struct w _ _ _ _ hA (by kernel_rfl)]
  rw [show Try.prog.fieldsOf 32 = _ from by unfold Program.fieldsOf; rw [Try.underlying32]]
  refine eqF_cons (by decide) (run_part_plain w (by kernel_rfl) rfl) (run_part_plain w (by kernel_rfl) rfl) (run_equalIn_int w _ _ _ _ _ _ Try.underlying3) ?_
  refine eqF_cons (by decide) (run_part_plain w (by kernel_rfl) rfl) (run_part_plain w (by kernel_rfl) rfl) (run_equalIn_int w _ _ _ _ _ _ Try.underlying3) ?_
  refine eqF_cons (by decide) (run_part_plain w (by kernel_rfl) rfl) (run_part_plain w (by kernel_rfl) rfl) (run_equalIn_int w _ _ _ _ _ _ Try.underlying3) ?_
  refine eqF_cons (by decide) (run_part_plain w (by kernel_rfl) rfl) (run_part_plain w (by kernel_rfl) rfl) (run_equalIn_int w _ _ _ _ _ _ Try.underlying3) ?_
  refine eqF_cons (by decide) (run_part_plain w (by kernel_rfl) rfl) (run_part_plain w (by kernel_rfl) rfl) (run_equalIn_int w _ _ _ _ _ _ Try.underlying3) ?_
  refine eqF_cons (by decide) (run_part_plain w (by kernel_rfl) rfl) (run_part_plain w (by kernel_rfl) rfl) (run_equalIn_string w _ _ _ _ Try.underlying9) ?_
  refine eqF_cons (by decide) (run_part_plain w (by kernel_rfl) rfl) (run_part_plain w (by kernel_rfl) rfl) (run_equalIn_int w _ _ _ _ _ _ Try.underlying3) ?_
  refine eqF_cons (by decide) (run_part_plain w (by kernel_rfl) rfl) (run_part_plain w (by kernel_rfl) rfl) (run_equalIn_int w _ _ _ _ _ _ Try.underlying3) ?_
  refine eqF_cons (by decide) (run_part_plain w (by kernel_rfl) rfl) (run_part_plain w (by kernel_rfl) rfl) (run_equalIn_bool' w _ _ _ _ Try.underlying4) ?_
  have hp : ∀ (a1 a2 a3 a4 a5 : Int) (a6 : ByteArray) (a7 a8 : Int) (a9 : Bool) (a10 : Int) (a11 : ByteArray), (part 30 #[.int .i64 a1, .int .i64 a2, .int .i64 a3, .int .i64 a4, .int .i64 a5, .string a6, .int .i64 a7, .int .i64 a8, .bool a9, .int .i64 a10, .string a11] 9).run Try.prog w = .ok (.agg #[.int .i64 a10, .string a11]) w := fun _ _ _ _ _ _ _ _ _ _ _ => by kernel_rfl
  have hlast : (Op.eqFields 9998 #[.int .i64 x10, .string x11] #[.int .i64 y10, .string y11] (Try.prog.fieldsOf 30).toList).run Try.prog w = .ok (x10 == y10 && (x11.toList == y11.toList && true)) w := by
    rw [show Try.prog.fieldsOf 30 = _ from by unfold Program.fieldsOf; rw [Try.underlying30]]
    refine eqF_cons (by decide) (run_part_plain w (by kernel_rfl) rfl) (run_part_plain w (by kernel_rfl) rfl) (run_equalIn_int w _ _ _ _ _ _ Try.underlying3) ?_
    refine eqF_cons (by decide) (run_part_plain w (by kernel_rfl) rfl) (run_part_plain w (by kernel_rfl) rfl) (run_equalIn_string w _ _ _ _ Try.underlying9) ?_
    rfl
  have := eqF_cons (P := Try.prog) (w := w) (d := 9998 + 1) (fs := []) (f := { name := "After", type := 30, offset := 9, embedded := false, tag := "", pkgPath := "", byteOffset := 80 }) (by decide) (hp x1 x2 x3 x4 x5 x6 x7 x8 x9 x10 x11) (hp y1 y2 y3 y4 y5 y6 y7 y8 y9 y10 y11) ((run_equalIn_struct w _ _ _ _ hI (by kernel_rfl)).trans hlast) rfl
  simp only [Bool.and_true] at this
  exact this

theorem eql_ask (r s : AskV) (w : World) : (binOp .eql 32 r.val s.val).run Try.prog w = .ok (.bool (eqA r s)) w := by
  have := equalIn_ask r s w
  unfold AskV.val at this ⊢
  rw [run_eql_struct, this]
  rfl

theorem neq_ask (r s : AskV) (w : World) : (binOp .neq 32 r.val s.val).run Try.prog w = .ok (.bool (!eqA r s)) w := by
  have := equalIn_ask r s w
  unfold AskV.val at this ⊢
  rw [run_neq_struct, this]
  rfl

end Go.Proofs.Ytjamdffaieocmaa
