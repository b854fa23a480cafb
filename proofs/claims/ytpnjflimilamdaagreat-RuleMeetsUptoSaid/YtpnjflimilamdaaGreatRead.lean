/-
  What an argument of the program's data reads as stands for its abstract value, of a size within its bulk.
-/
import Derived.Test.YtpnjflimilamdaaGreatRows
import Derived.Test.YtpnjflimilamdaaGreatAwTy
import Derived.Test.YtpnjflimilamdaaGreatAw23
namespace Go.Proofs.YtpnjflimilamdaaGreat
set_option linter.unusedSimpArgs false
set_option linter.unusedVariables false
open Go.Aw Go.RowKit

theorem bulk_sum {H : Type} (l : List (DataW H)) : (l.map Rows.uptoBulk).sum = Rows.uptoBulkAll l := by
  induction l with
  | nil => rfl
  | cons a l ih => simp only [List.map_cons, List.sum_cons, ih, Rows.uptoBulkAll]
theorem bulk_slice {H : Type} (l r : List (DataW H)) : (l.map Rows.uptoBulk).sum ≤ Rows.uptoBulk (.slice l r) := by
  rw [bulk_sum]; simp only [Rows.uptoBulk]; omega

theorem one_bulk {H : Type} (d : DataW H) : 1 ≤ Rows.uptoBulk d := by
  cases d with
  | lit l => cases l <;> simp [Rows.uptoBulk]
  | _ => simp [Rows.uptoBulk]

theorem laid : Laid Tryz.prog := ⟨by kernel_rfl, by kernel_rfl, by kernel_rfl⟩
theorem ce_int : Tryz.prog.cellsOf 3 = 1 := by kernel_rfl
theorem ce_bool : Tryz.prog.cellsOf 4 = 1 := by kernel_rfl
theorem ce_tm : Tryz.prog.cellsOf 24 = 3 := by kernel_rfl
theorem ce_tms : Tryz.prog.cellsOf 22 = 1 := by kernel_rfl
theorem ce_ar : Tryz.prog.cellsOf 103 = 7 := by kernel_rfl
theorem ce_ars : Tryz.prog.cellsOf 81 = 1 := by kernel_rfl
theorem ce_cn : Tryz.prog.cellsOf 88 = 6 := by kernel_rfl
theorem ce_cns : Tryz.prog.cellsOf 62 = 1 := by kernel_rfl
theorem ce_sr : Tryz.prog.cellsOf 83 = 6 := by kernel_rfl
theorem ce_srs : Tryz.prog.cellsOf 61 = 1 := by kernel_rfl
theorem ce_bl : Tryz.prog.cellsOf 64 = 3 := by kernel_rfl

section
variable {H : Type} {enc : TypeId × Value → H} {w : World} {fuel : Nat} {cs : List Value} {d : DataW H} {ps : List MemPlace}

theorem map_rT (l : List Tm) : l.map cT = rsT l := by
  rw [rsT_map]; exact List.map_congr_left fun t _ => (rT_eq t).symm
theorem sizes_sum (l : List Tm) : (l.map fun t => 3 * Tm.size t).sum = 3 * sizes l := by
  induction l with
  | nil => rfl
  | cons a l ih => simp only [List.map_cons, List.sum_cons, ih, sizes]; omega
theorem sizesA_sum (l : List Ar) : (l.map fun t => 3 * Ar.size t).sum = 3 * sizesA l := by
  induction l with
  | nil => rfl
  | cons a l ih => simp only [List.map_cons, List.sum_cons, ih, sizesA]; omega
theorem sizesC_sum (l : List Cn) : (l.map fun t => 3 * Cn.size t).sum = 3 * sizesC l := by
  induction l with
  | nil => rfl
  | cons a l ih => simp only [List.map_cons, List.sum_cons, ih, sizesC]; omega
theorem sizesD_sum (l : List Cd) : (l.map fun t => 3 * Cd.size t).sum = 3 * sizesD l := by
  induction l with
  | nil => rfl
  | cons a l ih => simp only [List.map_cons, List.sum_cons, ih, sizesD]; omega
theorem sizesS_sum (l : List Sr) : (l.map fun t => 3 * Sr.size t).sum = 3 * sizesS l := by
  induction l with
  | nil => rfl
  | cons a l ih => simp only [List.map_cons, List.sum_cons, ih, sizesS]; omega

set_option maxRecDepth 100000 in
/-- What the fields read as, one by one. -/
theorem read_tm : ∀ fuel cs (d : DataW H) ps, DataW.trod enc Tryz.prog w 0 (fun _ => true) true fuel 24 cs = some (d, ps) → ∃ t : Tm, CV (oldS w) w cs (cT t) ∧ 3 * t.size ≤ Rows.uptoBulk d := by
  intro fuel
  induction fuel using Nat.strongRecOn with
  | _ fuel IH =>
    intro cs d ps h
    obtain ⟨xs, n, rfl, e, hl, hxl, hf⟩ := DataW.trod_struct Tryz.underlying24 h
    obtain ⟨rfl, rfl⟩ := Prod.mk.inj e
    rw [ce_tm] at hl
    match xs, hxl, cs, hl with
    | [x0, x1, x2], _, [c0, c1, c2], _ =>
      have h0 : DataW.trod enc Tryz.prog w 0 (fun _ => true) true n 3 (List.take (Tryz.prog.cellsOf 3) [c0, c1, c2]) = some (x0.1, x0.2) := hf 0 _ rfl
      rw [ce_int] at h0
      have h1 : DataW.trod enc Tryz.prog w 0 (fun _ => true) true n 3 (List.take (Tryz.prog.cellsOf 3) [c1, c2]) = some (x1.1, x1.2) := hf 1 _ rfl
      rw [ce_int] at h1
      have h2 : DataW.trod enc Tryz.prog w 0 (fun _ => true) true n 22 (List.take (Tryz.prog.cellsOf 22) [c2]) = some (x2.1, x2.2) := hf 2 _ rfl
      rw [ce_tms] at h2
      obtain ⟨k, _, r0, _⟩ := read_int Tryz.underlying3 h0
      obtain ⟨m, _, r1, _⟩ := read_int Tryz.underlying3 h1
      obtain ⟨l, r2, hs⟩ := read_slice Tryz.underlying22 ce_tm (by decide) (fun t => 3 * Tm.size t) cT Rows.uptoBulk bulk_slice (fun m cs d ps hm hh => IH m (by omega) cs d ps hh) h2
      rw [map_rT] at r2
      rw [sizes_sum] at hs
      have o0 := one_bulk x0.1
      have o1 := one_bulk x1.1
      refine ⟨.mk k m l, r0.append (r1.append r2), ?_⟩
      simp only [Tm.size, List.map_cons, List.map_nil, Rows.uptoBulk, Rows.uptoBulkAll]
      omega

theorem read_tms (h : DataW.trod enc Tryz.prog w 0 (fun _ => true) true fuel 22 cs = some (d, ps)) : ∃ l : List Tm, CV (oldS w) w cs [sT l] ∧ 3 * sizes l ≤ Rows.uptoBulk d := by
  obtain ⟨l, r2, hs⟩ := read_slice Tryz.underlying22 ce_tm (by decide) (fun t => 3 * Tm.size t) cT Rows.uptoBulk bulk_slice (fun m cs d ps hm hh => read_tm m cs d ps hh) h
  rw [map_rT] at r2
  rw [sizes_sum] at hs
  exact ⟨l, r2, hs⟩

set_option maxRecDepth 100000 in
theorem read_ar {cs} {d : DataW H} {ps} (h : DataW.trod enc Tryz.prog w 0 (fun _ => true) true fuel 103 cs = some (d, ps)) : ∃ t : Ar, CV (oldS w) w cs (cA t) ∧ 3 * t.size ≤ Rows.uptoBulk d := by
  obtain ⟨xs, n, rfl, e, hl, hxl, hf⟩ := DataW.trod_struct Tryz.underlying103 h
  obtain ⟨rfl, rfl⟩ := Prod.mk.inj e
  rw [ce_ar] at hl
  match xs, hxl, cs, hl with
  | [x0, x1, x2, x3, x4], _, [c0, c1, c2, c3, c4, c5, c6], _ =>
    have h0 : DataW.trod enc Tryz.prog w 0 (fun _ => true) true n 4 (List.take (Tryz.prog.cellsOf 4) [c0, c1, c2, c3, c4, c5, c6]) = some (x0.1, x0.2) := hf 0 _ rfl
    rw [ce_bool] at h0
    have h1 : DataW.trod enc Tryz.prog w 0 (fun _ => true) true n 24 (List.take (Tryz.prog.cellsOf 24) [c1, c2, c3, c4, c5, c6]) = some (x1.1, x1.2) := hf 1 _ rfl
    rw [ce_tm] at h1
    have h2 : DataW.trod enc Tryz.prog w 0 (fun _ => true) true n 22 (List.take (Tryz.prog.cellsOf 22) [c4, c5, c6]) = some (x2.1, x2.2) := hf 2 _ rfl
    rw [ce_tms] at h2
    have h3 : DataW.trod enc Tryz.prog w 0 (fun _ => true) true n 3 (List.take (Tryz.prog.cellsOf 3) [c5, c6]) = some (x3.1, x3.2) := hf 3 _ rfl
    rw [ce_int] at h3
    have h4 : DataW.trod enc Tryz.prog w 0 (fun _ => true) true n 22 (List.take (Tryz.prog.cellsOf 22) [c6]) = some (x4.1, x4.2) := hf 4 _ rfl
    rw [ce_tms] at h4
    obtain ⟨k, _, r0⟩ := read_bool Tryz.underlying4 h0
    obtain ⟨m, r1, s1⟩ := read_tm _ _ _ _ h1
    obtain ⟨l, r2, s2⟩ := read_tms h2
    obtain ⟨o, _, r3, _⟩ := read_int Tryz.underlying3 h3
    obtain ⟨q, r4, s4⟩ := read_tms h4
    refine ⟨⟨k, m, l, o, q⟩, r0.append (r1.append (r2.append (r3.append r4))), ?_⟩
    simp only [Ar.size, List.map_cons, List.map_nil, Rows.uptoBulk, Rows.uptoBulkAll]
    omega
theorem map_cA (l : List Ar) : l.map cA = rsA l := by
  induction l with
  | nil => rfl
  | cons a l ih => simp only [List.map_cons, ih, rsA]
theorem read_ars {cs} {d : DataW H} {ps} (h : DataW.trod enc Tryz.prog w 0 (fun _ => true) true fuel 81 cs = some (d, ps)) : ∃ l : List Ar, CV (oldS w) w cs [sA l] ∧ 3 * sizesA l ≤ Rows.uptoBulk d := by
  obtain ⟨l, r2, hs⟩ := read_slice Tryz.underlying81 ce_ar (by decide) (fun t => 3 * Ar.size t) cA Rows.uptoBulk bulk_slice (fun m cs d ps hm hh => read_ar hh) h
  rw [map_cA] at r2
  rw [sizesA_sum] at hs
  exact ⟨l, r2, hs⟩

set_option maxRecDepth 100000 in
theorem read_cn {cs} {d : DataW H} {ps} (h : DataW.trod enc Tryz.prog w 0 (fun _ => true) true fuel 88 cs = some (d, ps)) : ∃ t : Cn, CV (oldS w) w cs (cC t) ∧ 3 * t.size + 2 ≤ Rows.uptoBulk d := by
  obtain ⟨xs, n, rfl, e, hl, hxl, hf⟩ := DataW.trod_struct Tryz.underlying88 h
  obtain ⟨rfl, rfl⟩ := Prod.mk.inj e
  rw [ce_cn] at hl
  match xs, hxl, cs, hl with
  | [x0, x1, x2, x3], _, [c0, c1, c2, c3, c4, c5], _ =>
    have h0 : DataW.trod enc Tryz.prog w 0 (fun _ => true) true n 3 (List.take (Tryz.prog.cellsOf 3) [c0, c1, c2, c3, c4, c5]) = some (x0.1, x0.2) := hf 0 _ rfl
    rw [ce_int] at h0
    have h1 : DataW.trod enc Tryz.prog w 0 (fun _ => true) true n 81 (List.take (Tryz.prog.cellsOf 81) [c1, c2, c3, c4, c5]) = some (x1.1, x1.2) := hf 1 _ rfl
    rw [ce_ars] at h1
    have h2 : DataW.trod enc Tryz.prog w 0 (fun _ => true) true n 22 (List.take (Tryz.prog.cellsOf 22) [c2, c3, c4, c5]) = some (x2.1, x2.2) := hf 2 _ rfl
    rw [ce_tms] at h2
    have h3 : DataW.trod enc Tryz.prog w 0 (fun _ => true) true n 24 (List.take (Tryz.prog.cellsOf 24) [c3, c4, c5]) = some (x3.1, x3.2) := hf 3 _ rfl
    rw [ce_tm] at h3
    obtain ⟨o, _, r0, _⟩ := read_int Tryz.underlying3 h0
    obtain ⟨m, r1, s1⟩ := read_ars h1
    obtain ⟨l, r2, s2⟩ := read_tms h2
    obtain ⟨q, r3, s3⟩ := read_tm _ _ _ _ h3
    have o0 := one_bulk x0.1
    refine ⟨⟨o, m, l, q⟩, r0.append (r1.append (r2.append r3)), ?_⟩
    simp only [Cn.size, List.map_cons, List.map_nil, Rows.uptoBulk, Rows.uptoBulkAll]
    omega
theorem map_cC (l : List Cn) : l.map cC = rsC l := by
  induction l with
  | nil => rfl
  | cons a l ih => simp only [List.map_cons, ih, rsC]
theorem read_cns {cs} {d : DataW H} {ps} (h : DataW.trod enc Tryz.prog w 0 (fun _ => true) true fuel 62 cs = some (d, ps)) : ∃ l : List Cn, CV (oldS w) w cs [sC l] ∧ 3 * sizesC l ≤ Rows.uptoBulk d := by
  obtain ⟨l, r2, hs⟩ := read_slice Tryz.underlying62 ce_cn (by decide) (fun t => 3 * Cn.size t) cC Rows.uptoBulk bulk_slice (fun m cs d ps hm hh => let ⟨t, q1, q2⟩ := read_cn hh; ⟨t, q1, by omega⟩) h
  rw [map_cC] at r2
  rw [sizesC_sum] at hs
  exact ⟨l, r2, hs⟩

set_option maxRecDepth 100000 in
theorem read_sr {cs} {d : DataW H} {ps} (h : DataW.trod enc Tryz.prog w 0 (fun _ => true) true fuel 83 cs = some (d, ps)) : ∃ t : Sr, CV (oldS w) w cs (cS t) ∧ 3 * t.size ≤ Rows.uptoBulk d := by
  obtain ⟨xs, n, rfl, e, hl, hxl, hf⟩ := DataW.trod_struct Tryz.underlying83 h
  obtain ⟨rfl, rfl⟩ := Prod.mk.inj e
  rw [ce_sr] at hl
  match xs, hxl, cs, hl with
  | [x0, x1, x2, x3], _, [c0, c1, c2, c3, c4, c5], _ =>
    have h0 : DataW.trod enc Tryz.prog w 0 (fun _ => true) true n 81 (List.take (Tryz.prog.cellsOf 81) [c0, c1, c2, c3, c4, c5]) = some (x0.1, x0.2) := hf 0 _ rfl
    rw [ce_ars] at h0
    have h1 : DataW.trod enc Tryz.prog w 0 (fun _ => true) true n 3 (List.take (Tryz.prog.cellsOf 3) [c1, c2, c3, c4, c5]) = some (x1.1, x1.2) := hf 1 _ rfl
    rw [ce_int] at h1
    have h2 : DataW.trod enc Tryz.prog w 0 (fun _ => true) true n 4 (List.take (Tryz.prog.cellsOf 4) [c2, c3, c4, c5]) = some (x2.1, x2.2) := hf 2 _ rfl
    rw [ce_bool] at h2
    have h3 : DataW.trod enc Tryz.prog w 0 (fun _ => true) true n 24 (List.take (Tryz.prog.cellsOf 24) [c3, c4, c5]) = some (x3.1, x3.2) := hf 3 _ rfl
    rw [ce_tm] at h3
    obtain ⟨m, r0, s0⟩ := read_ars h0
    obtain ⟨o, _, r1, _⟩ := read_int Tryz.underlying3 h1
    obtain ⟨b, _, r2⟩ := read_bool Tryz.underlying4 h2
    obtain ⟨q, r3, s3⟩ := read_tm _ _ _ _ h3
    refine ⟨⟨m, o, b, q⟩, r0.append (r1.append (r2.append r3)), ?_⟩
    simp only [Sr.size, List.map_cons, List.map_nil, Rows.uptoBulk, Rows.uptoBulkAll]
    omega
theorem map_cS (l : List Sr) : l.map cS = rsS l := by
  induction l with
  | nil => rfl
  | cons a l ih => simp only [List.map_cons, ih, rsS]
theorem read_srs {cs} {d : DataW H} {ps} (h : DataW.trod enc Tryz.prog w 0 (fun _ => true) true fuel 61 cs = some (d, ps)) : ∃ l : List Sr, CV (oldS w) w cs [sS l] ∧ 3 * sizesS l ≤ Rows.uptoBulk d := by
  obtain ⟨l, r2, hs⟩ := read_slice Tryz.underlying61 ce_sr (by decide) (fun t => 3 * Sr.size t) cS Rows.uptoBulk bulk_slice (fun m cs d ps hm hh => read_sr hh) h
  rw [map_cS] at r2
  rw [sizesS_sum] at hs
  exact ⟨l, r2, hs⟩

set_option maxRecDepth 100000 in
theorem read_bl {cs} {d : DataW H} {ps} (h : DataW.trod enc Tryz.prog w 0 (fun _ => true) true fuel 64 cs = some (d, ps)) : ∃ t : Bl, CV (oldS w) w cs [.lst 6 (rsS t.sorts) false, .lst 6 (rsC t.cons) false, .int .i64 t.elim] ∧ 3 * t.size ≤ Rows.uptoBulk d := by
  obtain ⟨xs, n, rfl, e, hl, hxl, hf⟩ := DataW.trod_struct Tryz.underlying64 h
  obtain ⟨rfl, rfl⟩ := Prod.mk.inj e
  rw [ce_bl] at hl
  match xs, hxl, cs, hl with
  | [x0, x1, x2], _, [c0, c1, c2], _ =>
    have h0 : DataW.trod enc Tryz.prog w 0 (fun _ => true) true n 61 (List.take (Tryz.prog.cellsOf 61) [c0, c1, c2]) = some (x0.1, x0.2) := hf 0 _ rfl
    rw [ce_srs] at h0
    have h1 : DataW.trod enc Tryz.prog w 0 (fun _ => true) true n 62 (List.take (Tryz.prog.cellsOf 62) [c1, c2]) = some (x1.1, x1.2) := hf 1 _ rfl
    rw [ce_cns] at h1
    have h2 : DataW.trod enc Tryz.prog w 0 (fun _ => true) true n 3 (List.take (Tryz.prog.cellsOf 3) [c2]) = some (x2.1, x2.2) := hf 2 _ rfl
    rw [ce_int] at h2
    obtain ⟨m, r0, s0⟩ := read_srs h0
    obtain ⟨l, r1, s1⟩ := read_cns h1
    obtain ⟨o, _, r2, _⟩ := read_int Tryz.underlying3 h2
    refine ⟨⟨m, l, o⟩, r0.append (r1.append r2), ?_⟩
    simp only [Bl.size, List.map_cons, List.map_nil, Rows.uptoBulk, Rows.uptoBulkAll]
    omega
end

end Go.Proofs.YtpnjflimilamdaaGreat
