/-
  The net: the contract of slices.Delete, of one.
-/
import Derived.Test.YtphoijlpgplnkaaNetSendC
namespace Go.Proofs.Ytphoijlpgplnkaa
open Go.RowKit Go.ChangeMaps

theorem zero_gram (w : World) : (zeroValue 31).run Try.prog w = .ok (.agg #[.int .i64 0, .int .i64 0, .int .i64 0, .slice none 0 0, .bool false]) w := by kernel_rfl

theorem run_clear_gram (w : World) (g off c : Nat) (cur : Array Value) (h : w.heap[g]? = some (.cells cur 31 (0, 0))) (hs : off + 5 ≤ cur.size) :
    ∃ vs : List Value, vs.length = 5 ∧ ∀ ty, (Builtin.clear_ #[54] ty #[.slice (some ⟨g, off, none⟩) 1 c]).run Try.prog w = .ok (.tuple #[]) (w.setCells g off vs) := by
  obtain ⟨vs, hvs⟩ : ∃ vs, vs = (Builtin.zeroCells #[Value.int .i64 0, .int .i64 0, .int .i64 0, .slice none 0 0, .bool false] 1).toList := ⟨_, rfl⟩
  have hl : vs.length = 5 := by rw [hvs]; simp [Builtin.zeroCells]
  have h1 : ∀ v ∈ vs, v.oneCell' = true := by
    intro v hv
    have e : vs = [Value.int .i64 0, .int .i64 0, .int .i64 0, .slice none 0 0, .bool false] := by rw [hvs]; kernel_rfl
    rw [e] at hv
    simp only [List.mem_cons, List.not_mem_nil, or_false] at hv
    rcases hv with rfl | rfl | rfl | rfl | rfl <;> rfl
  have hst := run_storeCells_cells (P := Try.prog) g off vs 0 w (fun j hj => by
    simp only [World.cell?, h]
    rw [Array.getElem?_eq_getElem (by omega)]
    rfl) (fun j hj => by simp [World.frozen?, h]) h1
  rw [Nat.add_zero] at hst
  refine ⟨vs, hl, fun ty => ?_⟩
  simp only [Builtin.clear_]
  simp [run_underlying Try.underlying54, zero_gram, Result.andThen, Value.cells, ← hvs, hst]

theorem gmC_split (Ms : List GM) (i : Nat) : gmC (Ms.eraseIdx i) = gmC (Ms.take i) ++ gmC (Ms.drop (i + 1)) := by
  unfold gmC
  rw [← List.flatMap_append, List.eraseIdx_eq_take_drop_succ]

theorem gmC_drop (Ms : List GM) (i j : Nat) (h : i + 1 ≤ Ms.length) : (gmC (Ms.drop (i + 1)))[j]? = (gmC Ms)[(i + 1) * 5 + j]? := by
  have e : gmC Ms = gmC (Ms.take (i + 1)) ++ gmC (Ms.drop (i + 1)) := by
    unfold gmC
    rw [← List.flatMap_append, List.take_append_drop]
  have hl : (gmC (Ms.take (i + 1))).length = (i + 1) * 5 := by rw [gmC_len, List.length_take, Nat.min_eq_left h]
  rw [e, List.getElem?_append_right (by omega), hl]
  congr 1
  omega

theorem gmC_take (Ms : List GM) (i j : Nat) (h : i ≤ Ms.length) (hj : j < i * 5) : (gmC (Ms.take i))[j]? = (gmC Ms)[j]? := by
  have e : gmC Ms = gmC (Ms.take i) ++ gmC (Ms.drop i) := by
    unfold gmC
    rw [← List.flatMap_append, List.take_append_drop]
  have hl : (gmC (Ms.take i)).length = i * 5 := by rw [gmC_len, List.length_take, Nat.min_eq_left h]
  rw [e, List.getElem?_append_left (by omega)]

theorem step_run' {P : Program} {w : World} {ops : Array Oper} {o : Oper} {a : Act} {K : Act → World → Prop} {Q : Exit → Act → World → Prop} {E : Prop} (hg : o.guard = none) (s x : Operand) (t : TypeId)
    (ho : o.op = .call { callee := .builtin .append, args := #[s, x], argTypes := #[t, t] }) (v vx v' : Value) (w' : World) (hs : a.eval s = v) (hx : a.eval x = vx)
    (hrun : (Builtin.append_ #[t, t] o.type #[v, vx]).run P w = .ok v' w') (hK : K (a.put o.dst v') w') : if Region.wanted o (yielded ops a.tmps) = true then Oper.wp P o a w K Q else E :=
  step_run hg s x t ho v vx v' w' hs hx hrun hK

set_option maxRecDepth 100000 in
set_option maxHeartbeats 1000000 in
theorem delC {w : World} {gb : Nat} {v : Value} {Ms : List GM} {i k : Nat} (hk : Ms.length = k + 1) (hs : Seg w 31 5 (some gb) v (gmC Ms) (k + 1)) (hi : i < k + 1) (hn : k ≤ 1000) (ho : ∀ m ∈ Ms, ∃ a n c, m.fv = .slice a n c) :
    Calls Try.prog 32 #[v, .int .i64 i, .int .i64 ((i : Int) + 1)] w fun e w' => ∃ v', e = .returned v' ∧
      Seg w' 31 5 (some gb) v' (gmC (Ms.eraseIdx i)) k ∧ Chg [gb] w w' := by
  obtain ⟨hcl, ⟨h0, _⟩ | ⟨gb', off, cap, cur, hge, rfl, hh, hnc, hmx, hsz, hcur⟩⟩ := hs
  · cases h0
  simp only [Option.some.injEq] at hge
  subst hge
  unfold maxLen at hmx
  have hgl := lt_of_block hh
  have q1 : (0 : Int) ≤ (i : Int) := by omega
  have q2 : (i : Int) + 1 ≤ (k : Int) + 1 := by omega
  have q3 : (k : Int) + 1 ≤ (cap : Int) := by omega
  have q4 : (i : Int) ≤ (k : Int) + 1 := by omega
  have q5 : (i : Int) + 1 ≤ (cap : Int) := by omega
  have q6 : (i : Int) ≤ (cap : Int) := by omega
  have hw1 : IntKind.i64.wrap ((i : Int) + 1) = (i : Int) + 1 := IntWalk.i64_in _ (by omega)
  have ht1 : ((i : Int) + 1).toNat = i + 1 := by omega
  have q7 : (0 : Int) ≤ (i : Int) + 1 := by omega
  have q8 : (i : Int) ≤ (k : Int) := by omega
  have q9 : (0 : Int) ≤ (k : Int) + 1 := by omega
  have q10 : (k : Int) ≤ (cap : Int) := by omega
  have ht2 : ((k : Int) + 1).toNat = k + 1 := by omega
  have hm5 : off + (k + 1) * 5 ≤ cur.size := by
    have : (k + 1) * 5 ≤ cap * 5 := Nat.mul_le_mul_right _ hnc
    omega
  obtain ⟨AD, hAD⟩ : ∃ AD, (if cap = i + 1 then some (⟨gb, off, none⟩ : Addr) else some ⟨gb, off + (i + 1) * 5, none⟩) = AD := ⟨_, rfl⟩
  obtain ⟨ad, had, hadd⟩ : ∃ ad, AD = some ad ∧ (i < k → ad = ⟨gb, off + (i + 1) * 5, none⟩) := by
    rw [← hAD]
    split
    · exact ⟨_, rfl, fun h => by omega⟩
    · exact ⟨_, rfl, fun _ => rfl⟩
  obtain ⟨i0, hi0, hz0, hz1, hz2⟩ := info_parts infoGram
  have hnl : (gmC (Ms.drop (i + 1))).length = (k - i) * 5 := by rw [gmC_len, List.length_drop, hk]; congr 1; omega
  have hdr : w.drew.heap[gb]? = some (.cells cur 31 (0, 0)) := hh
  have hone : ∀ u ∈ gmC (Ms.drop (i + 1)), u.oneCell' = true := fun u hu => by
    obtain ⟨m, hm, hu⟩ := List.mem_flatMap.1 hu
    obtain ⟨a, n, c, e⟩ := ho m (List.mem_of_mem_drop hm)
    exact cells_gm (w := w) (p := 0) (g := none) (v := undef) m e u hu
  have hrun : ∀ ty, (Builtin.append_ #[54, 54] ty #[.slice (some ⟨gb, off, none⟩) i cap, .slice (some ad) (k - i) (cap - (i + 1))]).run Try.prog w.drew = .ok (.slice (some ⟨gb, off, none⟩) k cap) (w.drew.setCells gb (off + i * 5) (gmC (Ms.drop (i + 1)))) := fun ty => by
    have := run_append_room_cells (P := Try.prog) w.drew 54 ty 31 i0 Try.underlying54 hi0 gb off i cap ad (k - i) (cap - (i + 1)) (gmC (Ms.drop (i + 1))) (by rw [hz1]; exact hnl)
      (fun j u hu => by
        have hj : j < (k - i) * 5 := by rw [← hnl]; exact (List.getElem?_eq_some_iff.1 hu).1
        rw [hadd (by omega)]
        have e : (⟨gb, off + (i + 1) * 5, none⟩ : Addr).add j = ⟨gb, off + (i + 1) * 5 + j, none⟩ := by cases j <;> simp [Addr.add]
        rw [e]
        simp only [World.cell?, hdr]
        rw [Nat.add_assoc, hcur _ (by omega), ← gmC_drop Ms i j (by omega), hu]
        rfl)
      hone (by omega) (fun j hj => by
          rw [hnl] at hj
          rw [hz1]
          simp only [World.cell?, hdr]
          rw [Array.getElem?_eq_getElem (by omega)]
          rfl) (fun j hj => by simp [World.frozen?, hdr])
    rw [hz1, show i + (k - i) = k by omega] at this
    exact this
  obtain ⟨t, ht⟩ : ∃ t, t = w.drew.setCells gb (off + i * 5) (gmC (Ms.drop (i + 1))) := ⟨_, rfl⟩
  rw [← ht] at hrun
  have gt : Chg [gb] w t := by
    rw [ht]
    exact ((Chg.refl _ w).drew).trans (chg_setCells _ _ _ _)
  have htg : t.heap[gb]? = some (.cells (overw cur (off + i * 5) (gmC (Ms.drop (i + 1)))) 31 (0, 0)) := by
    rw [ht]
    exact heap_setCells_at _ _ _ _ _ _ _ hdr
  obtain ⟨vs, hvl, hclr⟩ := run_clear_gram t gb (off + k * 5) (cap - k) _ htg (by rw [size_overw]; omega)
  have gset : Chg [gb] t (t.setCells gb (off + k * 5) vs) := chg_setCells _ _ _ _
  have hel : (Ms.eraseIdx i).length = k := by rw [List.length_eraseIdx]; split <;> omega
  have hfin : Seg (t.setCells gb (off + k * 5) vs) 31 5 (some gb) (.slice (some ⟨gb, off, none⟩) k cap) (gmC (Ms.eraseIdx i)) k ∧ Chg [gb] w (t.setCells gb (off + k * 5) vs) := by
    refine ⟨⟨by rw [gmC_len, hel], .inr ⟨gb, off, cap, _, rfl, rfl, heap_setCells_at _ _ _ _ _ _ _ htg, by omega, by unfold maxLen; omega, by rw [size_overw, size_overw]; omega, fun j hj => ?_⟩⟩, gt.trans gset⟩
    rw [get_overw _ _ _ _ (by rw [size_overw]; omega), if_neg (by omega), get_overw _ _ _ _ (by rw [hnl]; omega), hnl, gmC_split]
    have htl : (gmC (Ms.take i)).length = i * 5 := by rw [gmC_len, List.length_take, hk]; congr 1; omega
    by_cases hji : j < i * 5
    · rw [if_neg (by omega), hcur j (by omega), List.getElem?_append_left (by omega), gmC_take Ms i j (by omega) hji]
    · rw [if_pos (by omega), List.getElem?_append_right (by omega), htl]
      congr 1
      omega
  have HRUN := Lib.hid hrun
  have HCLR := Lib.hid hclr
  have HFIN := Lib.hid hfin
  have hne : ¬ cap = k := by omega
  have htl := lt_of_block htg
  clear hh hcur hrun hdr hone ht gt htg hvl hclr gset hfin hel hnl hcl
  go_enter Try.func32, Try.ntmps32
  go_upto_region 5 with fail
  rw [had] at hAD
  go_region_law (first
    | (refine step_run (by rfl) (.tmp 22) (.tmp 25) 54 (by rfl) _ _ _ t (by rfl) (by kernel_rfl) (HRUN.out _) ?_)
    | fail)
  all_goals
    have hclr := HCLR.out
    go_wp2_with (simp only [hclr])
    go_ret
    exact ⟨_, rfl, HFIN.out⟩

end Go.Proofs.Ytphoijlpgplnkaa
