/-
  The net: the contract of List.
-/
import Derived.Test.YtphoijlpgplnkaaNetRow
import Derived.Test.YtphoijlpgplnkaaNetRef
namespace Go.Proofs.Ytphoijlpgplnkaa
open Go.RowKit Go.ChangeMaps

set_option maxRecDepth 100000 in
set_option maxHeartbeats 400000 in
theorem cloneG {w : World} {g : Option Nat} {v : Value} {cs : List Value} {n : Nat} (h : Seg w 31 5 g v cs n) (h1 : ∀ u ∈ cs, u.oneCell' = true) (hn : n ≤ 1000000) :
    Calls Try.prog 35 #[v] w fun e w' => ∃ v', e = .returned v' ∧ ∃ g', Seg w' 31 5 g' v' cs n ∧ (∀ x, g' = some x → w.heap.size ≤ x) ∧ Chg ([] : List Nat) w w' := by
  obtain ⟨a, cap, rfl, hcn, hm⟩ := h.len
  have H := Lib.hid h
  unfold maxLen at hm
  have he := fun W => Lib.run_eql_slice_nil (P := Try.prog) W 54 31 a n cap 0 0 Try.underlying54
  cases a with
  | none =>
    have hg : g = none ∧ n = 0 ∧ cap = 0 := by
      obtain ⟨_, ⟨e1, e2, e3⟩ | ⟨b, off, cap', cur, _, e2, _⟩⟩ := h
      · simp only [Value.slice.injEq, true_and] at e2
        exact ⟨e1, e3, e2.2⟩
      · simp at e2
    obtain ⟨rfl, rfl, rfl⟩ := hg
    clear h
    go_enter Try.func35, Try.ntmps35
    go_wp2
    go_ret
    exact ⟨_, rfl, none, H.out, fun x hx => (by cases hx), Chg.refl _ _⟩
  | some a =>
    obtain ⟨u, hu⟩ : ∃ u, u = w.alloc (.cells #[] 31 (0, 0)) := ⟨_, rfl⟩
    have gu : Chg ([] : List Nat) w u := hu ▸ (Chg.refl _ _).alloc _
    have hown0 : u.ownsRow w.heap.size 31 5 (.slice (some ⟨w.heap.size, 0, none⟩) 0 0) 0 [] := by
      rw [hu]
      exact World.ownsRow_lit (base := w.heap.size) (size := 5) (e := 31) w #[] 0 (Nat.le_refl _) (by decide) rfl
    obtain ⟨v', t, e1, ow, hg⟩ := app_gram hown0 (h.chg gu (by simp)) h1 (by omega) gu.size
    obtain ⟨gt, _⟩ := own_chg gu hown0 hg (Nat.le_refl _)
    rw [Nat.zero_add, List.nil_append] at ow
    obtain ⟨g', hs, hg'⟩ := Seg.of_owns ow
    have HU := Lib.hid hu
    have E1 := Lib.hid e1
    have HS := Lib.hid hs
    have HG := Lib.hid hg'
    have GT := Lib.hid gt
    clear h hu gu hown0 e1 ow hg gt hs hg' h1
    go_enter Try.func35, Try.ntmps35
    go_wp2_with (rw [← HU.out]; refine wpList_run (by rfl) (.tmp 5) (.tmp 6) 54 (by rfl) _ _ _ t (by rfl) (by rfl) (E1.out _) ?_)
    go_ret
    exact ⟨v', rfl, g', HS.out, HG.out, GT.out⟩

/-- The row of the answer, its first frames copied. -/
structure CP (w wr : World) (Ms N : List GM) (g' : Option Nat) (v' : Value) (k : Nat) : Prop where
  l : N.length = k
  m : N.map GM.g = (Ms.take k).map GM.g
  s : Seg wr 31 5 g' v' (gmC (N ++ Ms.drop k)) Ms.length
  f : FrS wr N
  n : (g'.toList ++ N.filterMap GM.fb).Nodup
  b : ∀ x ∈ g'.toList ++ N.filterMap GM.fb, w.heap.size ≤ x
  c : Chg ([] : List Nat) w wr

theorem CP.step {w wr wz : World} {Ms N : List GM} {g' : Option Nat} {k rb off cap : Nat} (h : CP w wr Ms N g' (.slice (some ⟨rb, off, none⟩) Ms.length cap) k) (hg : g' = some rb) (hk : k < Ms.length) (hw : FrS w Ms) (hz : Chg ([] : List Nat) wr wz) {fv : Value} {fb : Option Nat}
    (hs : Seg wz 5 1 fb fv (byC (Ms.getD k default).g.fr) (Ms.getD k default).g.fr.length) (hf : ∀ x, fb = some x → wr.heap.size ≤ x) :
    CP w (wz.setCell ⟨rb, off + k * 5 + 3, none⟩ fv) Ms (N ++ [⟨(Ms.getD k default).g, fv, fb⟩]) g' (.slice (some ⟨rb, off, none⟩) Ms.length cap) (k + 1) := by
  subst hg
  have gt : Chg [rb] wz (wz.setCell ⟨rb, off + k * 5 + 3, none⟩ fv) := (Chg.refl _ _).setCell _ (by simp) _
  have hlN := h.l
  have hdk : Ms.drop k = Ms.getD k default :: Ms.drop (k + 1) := by
    rw [List.drop_eq_getElem_cons hk]
    simp [List.getD_eq_getElem?_getD, hk]
  have hput := (h.s.chg hz (by simp)).put1 (q := k * 5 + 3) (by omega) fv
  have hlen : (N ++ Ms.drop k).length = Ms.length := by simp [hlN]; omega
  have hgd : (N ++ Ms.drop k).getD k default = Ms.getD k default := by
    rw [hdk]
    simp [List.getD_eq_getElem?_getD, List.getElem?_append_right, hlN]
  rw [← gmC_put (N ++ Ms.drop k) k 3 ⟨(Ms.getD k default).g, fv, fb⟩ fv (by omega) (by decide) (fun q hq => by
    rw [hgd]
    match q, hq with
    | 0, _ => rfl
    | 1, _ => rfl
    | 2, _ => rfl
    | 3, _ => rfl
    | 4, _ => rfl)] at hput
  have hset : (N ++ Ms.drop k).set k ⟨(Ms.getD k default).g, fv, fb⟩ = (N ++ [⟨(Ms.getD k default).g, fv, fb⟩]) ++ Ms.drop (k + 1) := by
    rw [hdk, List.set_append_right _ _ (by omega), hlN, Nat.sub_self]
    simp
  rw [hset, ← Nat.add_assoc] at hput
  have hrbw : rb < wr.heap.size := h.s.lt rb rfl
  have hNlt : ∀ x ∈ N.filterMap GM.fb, x < wr.heap.size := h.f.lt
  have hn := h.n
  refine ⟨by simp [hlN], ?_, hput, fun m hm => ?_, ?_, fun x hx => ?_, (h.c.trans hz).new gt (by simpa using h.b rb (by simp))⟩
  · have htk : Ms.take (k + 1) = Ms.take k ++ [Ms.getD k default] := by
      rw [List.take_add_one]
      simp [List.getD_eq_getElem?_getD, hk]
    rw [htk, List.map_append, List.map_append, h.m]
    rfl
  · rcases List.mem_append.1 hm with hm | hm
    · refine ((h.f m hm).chg hz (by simp)).chg gt fun x hx e => ?_
      simp only [List.mem_singleton] at e
      subst e
      simp only [Option.toList_some, List.singleton_append, List.nodup_cons] at hn
      exact hn.1 (List.mem_filterMap.2 ⟨m, hm, hx⟩)
    · rw [List.mem_singleton.1 hm]
      refine (hs.chg gt fun x hx e => ?_ : Seg _ 5 1 fb fv (byC (Ms.getD k default).g.fr) (Ms.getD k default).g.fr.length)
      simp only [List.mem_singleton] at e
      have := hf x hx
      omega
  · rw [List.filterMap_append, ← List.append_assoc]
    rw [List.nodup_append]
    refine ⟨hn, ?_, fun x hx y hy e => ?_⟩
    · cases fb <;> simp
    · subst e
      have hy' : fb = some x := by
        simp only [List.mem_filterMap, List.mem_singleton] at hy
        obtain ⟨m, rfl, hy⟩ := hy
        exact hy
      have := hf x hy'
      rcases List.mem_append.1 hx with hx | hx
      · simp at hx
        omega
      · have := hNlt x hx
        omega
  · rw [List.filterMap_append, ← List.append_assoc] at hx
    rcases List.mem_append.1 hx with hx | hx
    · exact h.b x hx
    · have hy' : fb = some x := by
        simp only [List.mem_filterMap, List.mem_singleton] at hx
        obtain ⟨m, rfl, hx⟩ := hx
        exact hx
      exact Nat.le_trans h.c.size (hf x hy')

set_option maxRecDepth 100000 in
set_option maxHeartbeats 1000000 in
theorem listC {w : World} {p : Nat} {g : Option Nat} {v : Value} {most next : Int} {Ms : List GM} (h : NAt w p g v most next Ms) (hfr : ∀ m ∈ Ms, m.g.fr.length ≤ 100000) :
    Calls Try.prog 28 #[.pointer (some ⟨p, 0, none⟩)] w fun e w' => ∃ v', e = .returned v' ∧ ∃ g' N, CP w w' Ms N g' v' Ms.length := by
  obtain ⟨a, cap, rfl, hn1, hm⟩ := h.s.len
  have hml := h.l
  have hm2 := h.m2
  have hp := lt_of_block h.c
  have c2 : w.cell? ⟨p, 2, none⟩ = some (.slice a Ms.length cap) := by simp [World.cell?, h.c]
  unfold maxLen at hm
  have hfs : FrS w Ms := h.f
  have HCL := Lib.hid (cloneG h.s hfs.one (by omega))
  have HFS := Lib.hid hfs
  have HFR := Lib.hid hfr
  clear h hfs hfr
  go_enter Try.func28, Try.ntmps28
  go_wp2_with fail
  refine HCL.out.mono ?_
  rintro e x ⟨v', rfl, g', s', hf', b'⟩
  obtain ⟨a', c', rfl, hn2, hm2'⟩ := s'.len
  have cp : CP w x Ms [] g' (.slice a' Ms.length c') 0 := ⟨rfl, by simp, by simpa using s', fun m hm => by simp at hm, by cases g' <;> simp, fun x hx => hf' x (by simpa using hx), b'⟩
  have HCP := Lib.hid cp
  unfold maxLen at hm2'
  clear cp s' hf' b' HCL c2
  go_wp2_with fail
  go_loopw [14] (fun v14 wr => ∃ (k : Nat) (N : List GM), v14 = .int .i64 k ∧ k ≤ Ms.length ∧ CP w wr Ms N g' (.slice a' Ms.length c') k) (fun v14 _ => Ms.length - (intOf v14).toNat)
  case atStart => exact ⟨0, [], rfl, Nat.zero_le _, HCP.out⟩
  case round =>
    obtain ⟨k, N, rfl, hk, hcp⟩ := hrel
    by_cases hlt : k < Ms.length
    · obtain ⟨rb, off, cp, hgx, he, hrl, hcl⟩ := hcp.s.cell (by decide) k hlt
      simp only [Value.slice.injEq, true_and] at he
      obtain ⟨rfl, rfl⟩ := he
      have hlN := hcp.l
      have hdk : Ms.drop k = Ms.getD k default :: Ms.drop (k + 1) := by
        rw [List.drop_eq_getElem_cons hlt]
        simp [List.getD_eq_getElem?_getD, hlt]
      have hgd : (N ++ Ms.drop k).getD k default = Ms.getD k default := by
        rw [hdk]
        simp [List.getD_eq_getElem?_getD, List.getElem?_append_right, hlN]
      obtain ⟨x3, f3⟩ := hcl 3 (Ms.getD k default).fv (by decide) (by rw [gmC_get _ k 3 (by simp [hlN]; omega) (by decide), hgd]; rfl)
      have hmem : Ms.getD k default ∈ Ms := by simp [List.getD_eq_getElem?_getD, hlt]
      have hsg := (HFS.out.chg hcp.c) _ hmem
      obtain ⟨fa, fc, hfv, _, _⟩ := hsg.len
      have hclb := cloneB _ _ wr (seg_reads hsg) (by have := HFR.out _ hmem; omega)
      have hstep := fun wz (hz : Chg ([] : List Nat) wr wz) (fv : Value) (fb : Option Nat) => hcp.step hgx hlt HFS.out hz (fv := fv) (fb := fb)
      generalize hmm : Ms.getD k default = m at *
      obtain ⟨⟨g1, g2, g3, fr, sp⟩, fv, fb⟩ := m
      simp only at hfv hclb hstep x3
      subst hfv
      have HCLB := Lib.hid hclb
      have HSTEP := Lib.hid hstep
      have CL := Lib.hid hcl
      have i1 : (0 : Int) ≤ (k : Int) := by omega
      have i2 : (k : Int) < (Ms.length : Int) := by omega
      have hrow : ∀ wz, Chg ([] : List Nat) wr wz → wz.cell? ⟨rb, off + k * 5 + 3, none⟩ = some (.slice fa fr.length fc) ∧ wz.frozen? ⟨rb, off + k * 5 + 3, none⟩ = false ∧ rb < wz.heap.size := fun wz hz => ⟨(hz.nil_below.cell (p := ⟨rb, off + k * 5 + 3, none⟩) hrl).trans x3, (hz.nil_below.frozen (p := ⟨rb, off + k * 5 + 3, none⟩) hrl).trans f3, Nat.lt_of_lt_of_le hrl hz.size⟩
      have HROW := Lib.hid hrow
      clear hcp hcl hclb hstep hrow hsg hgd hdk hmm hmem hgx
      go_wp2_with fail
      refine HCLB.out.mono ?_
      rintro e wz ⟨fv', rfl, fb', sf, hff, bz⟩
      obtain ⟨fa', fc', rfl, _⟩ := sf.len
      have gz : Chg ([] : List Nat) wr wz := Chg.of_below bz
      obtain ⟨y3, y4, y5⟩ := HROW.out wz gz
      have HNEW := Lib.hid (HSTEP.out wz gz _ fb' sf hff)
      clear sf hff bz gz x3 f3 hrl
      go_wp2_with fail
      exact ⟨⟨k + 1, _, by simp, by omega, HNEW.out⟩, by simp [intOf]; omega⟩
    · obtain rfl : k = Ms.length := by omega
      have HQ := Lib.hid hcp
      clear hcp
      go_wp2
      go_ret
      exact ⟨_, rfl, g', N, HQ.out⟩

end Go.Proofs.Ytphoijlpgplnkaa
