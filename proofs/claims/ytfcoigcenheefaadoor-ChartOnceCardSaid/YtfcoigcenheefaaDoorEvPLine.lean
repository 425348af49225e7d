import Derived.Test.YtfcoigcenheefaaDoorEvJoin
set_option linter.unusedVariables false
set_option linter.unusedSimpArgs false
namespace Go.Proofs.YtfcoigcenheefaaDoor
open Go.RowKit
theorem line_bad (w : World) (kind g fn pc n : Int) (hb : rightB ⟨kind, g, fn, pc, n⟩ = false) : Calls Tryd.prog 21 #[.agg #[.int .i64 kind, .int .i64 g, .int .i64 fn, .int .i64 pc, .int .i64 n]] w fun x w' => x = .returned (.tuple #[.string ⟨#[]⟩, .int .i64 1]) ∧ Below w.heap.size w w' := by
  obtain ⟨wa, ha⟩ : ∃ wa, wa = (w.alloc (Obj.cells #[Value.int .i64 kind, .int .i64 g, .int .i64 fn, .int .i64 pc, .int .i64 n] 38)) := ⟨_, rfl⟩
  have hba : Below w.heap.size w wa := by rw [ha]; exact (Below.refl _ _).alloc (Nat.le_refl _) _
  have HR := right_any wa kind g fn pc n
  rw [hb] at HR
  have HR' := Lib.hid HR
  have HA := Lib.hid ha
  clear ha HR hb
  go_enter Tryd.func21, Tryd.ntmps21
  go_wp2_with fail
  rw [← HA.out]
  refine HR'.out.mono ?_
  rintro e w1 ⟨rfl, hb1⟩
  rename_i K1 K2 hK2
  refine hK2 _ _ ?_
  clear hK2
  go_wp2_with fail
  go_ret2
  exact ⟨rfl, hba.trans (hb1.mono hba.size)⟩
set_option maxRecDepth 100000 in
set_option maxHeartbeats 1000000 in
theorem line_begin (w : World) (g fn pc : Nat) (hr : rightB ⟨1, g, fn, pc, 0⟩ = true) (h1 : g < 100) (h2 : fn < 100) (h3 : pc < 100) : Calls Tryd.prog 21 #[.agg #[.int .i64 1, .int .i64 g, .int .i64 fn, .int .i64 pc, .int .i64 0]] w fun x w' => x = .returned (.tuple #[.string ⟨(lineE ⟨1, g, fn, pc, 0⟩).toArray⟩, .int .i64 0]) ∧ Below w.heap.size w w' := by
  obtain ⟨wa, ha⟩ : ∃ wa, wa = (w.alloc (Obj.cells #[Value.int .i64 1, .int .i64 g, .int .i64 fn, .int .i64 pc, .int .i64 0] 38)) := ⟨_, rfl⟩
  have hba : Below w.heap.size w wa := by rw [ha]; exact (Below.refl _ _).alloc (Nat.le_refl _) _
  have hsz : wa.heap.size = w.heap.size + 1 := by rw [ha]; simp
  have HR := right_any wa 1 g fn pc 0
  rw [hr] at HR
  have HR0 := Lib.hid hr
  have HR' := Lib.hid HR
  have HA := Lib.hid ha
  have c0 : wa.cell? ⟨w.heap.size, 0, none⟩ = some (.int .i64 1) := by rw [ha]; simp
  have c1 : wa.cell? ⟨w.heap.size, 1, none⟩ = some (.int .i64 g) := by rw [ha]; simp
  have c2 : wa.cell? ⟨w.heap.size, 2, none⟩ = some (.int .i64 fn) := by rw [ha]; simp
  have c3 : wa.cell? ⟨w.heap.size, 3, none⟩ = some (.int .i64 pc) := by rw [ha]; simp
  clear ha HR hr
  go_enter Tryd.func21, Tryd.ntmps21
  go_wp2_with fail
  rw [← HA.out]
  refine HR'.out.mono ?_
  rintro e w1 ⟨rfl, hb1⟩
  have d0 := below_cell hb1 (Nat.le_refl _) c0
  have d1 := below_cell hb1 (Nat.le_refl _) c1
  have d2 := below_cell hb1 (Nat.le_refl _) c2
  have d3 := below_cell hb1 (Nat.le_refl _) c3
  clear c0 c1 c2 c3
  have hs1 := hb1.size
  obtain ⟨H, hH⟩ : ∃ H, H = w1.heap.size := ⟨_, rfl⟩
  have hH' := hH.symm
  have HH := Lib.hid hH
  obtain ⟨wb, hwb⟩ : ∃ wb, wb = (w1.alloc (Obj.cells #[.string ⟨#[99, 111, 109, 109, 105, 116]⟩] 9)).alloc (Obj.cells #[.slice (some ⟨H, 0, none⟩) 1 1] 79) := ⟨_, rfl⟩
  have hF1 : Frm (fun _ => False) w1 wb := by rw [hwb]; exact ((Frm.refl _ _).alloc _).alloc _
  have hszb : wb.heap.size = H + 2 := by rw [hwb, hH]; simp
  have r0 : wb.heap[H]? = some (.cells #[.string ⟨#[99, 111, 109, 109, 105, 116]⟩] 9 (0, 0)) := by rw [hwb, heap_alloc_old _ _ (by simp; omega), hH]; exact heap_alloc_new _ _
  have r1 : wb.heap[H + 1]? = some (.cells #[.slice (some ⟨H, 0, none⟩) 1 1] 79 (0, 0)) := by
    have := heap_alloc_new (w1.alloc (Obj.cells #[.string ⟨#[99, 111, 109, 109, 105, 116]⟩] 9)) (Obj.cells #[.slice (some ⟨H, 0, none⟩) 1 1] 79)
    rw [hwb, hH]; rw [hH] at this; simpa using this
  have q0 : wb.cell? ⟨H, 0, none⟩ = some (.string ⟨#[99, 111, 109, 109, 105, 116]⟩) := (Lib.cell_of_heap r0 _).trans rfl
  have q1 : wb.cell? ⟨H + 1, 0, none⟩ = some (.slice (some ⟨H, 0, none⟩) 1 1) := (Lib.cell_of_heap r1 _).trans rfl
  have f0 : wb.frozen? ⟨H, 0, none⟩ = false := Lib.frozen_of_heap r0 0
  have e0 := hF1.cell d0 (fun e => e)
  have e1 := hF1.cell d1 (fun e => e)
  have e2 := hF1.cell d2 (fun e => e)
  have e3 := hF1.cell d3 (fun e => e)
  have HWB := Lib.hid hwb
  clear d0 d1 d2 d3 hwb hH
  rename_i K1 K2 hK2
  refine hK2 _ _ ?_
  clear hK2
  go_upto_region 4 with fail
  rw [← HWB.out]
  go_upto_region 7 with fail
  obtain ⟨wc, hwc⟩ : ∃ wc, wc = wb.setCell ⟨H, 0, none⟩ (.string ⟨#[98, 101, 103, 105, 110]⟩) := ⟨_, rfl⟩
  rw [← hwc]
  have hF2 : Frm (fun j => j = H) wb wc := by rw [hwc]; exact (Frm.refl (fun j => j = H) wb).setCell (p := ⟨H, 0, none⟩) (.inr rfl) _
  have hszc : wc.heap.size = H + 2 := by rw [hwc]; simpa using hszb
  have r0' : wc.heap[H]? = some (.cells #[.string ⟨#[98, 101, 103, 105, 110]⟩] 9 (0, 0)) := by rw [hwc, heap_setCell_same _ H 0 _ _ _ r0]; rfl
  have r1' : wc.heap[H + 1]? = some (.cells #[.slice (some ⟨H, 0, none⟩) 1 1] 79 (0, 0)) := by rw [hF2.block _ (by omega) (by simp)]; exact r1
  have g0 := hF2.cell e0 (by simp; omega)
  have g1 := hF2.cell e1 (by simp; omega)
  have g2 := hF2.cell e2 (by simp; omega)
  have g3 := hF2.cell e3 (by simp; omega)
  have hbc : Below w.heap.size w wc := ((hba.trans (hb1.mono hba.size)).trans (Frm.below (B := w.heap.size) hF1 (by omega) (fun k h => h.elim))).trans (Frm.below (B := w.heap.size) hF2 (by omega) (fun k h => by omega))
  clear hwc e0 e1 e2 e3 q0 q1 f0 r0 r1 hF1 hF2 HWB hszb
  go_wp2_with fail
  refine (put_three wc H g fn pc [98, 101, 103, 105, 110] h1 h2 h3 hszc r0' r1').mono ?_
  rintro e w4 ⟨rfl, v, s1, s2, s3, hF4⟩
  have hb4 : Below w.heap.size w w4 := hbc.trans (Frm.below (B := w.heap.size) hF4 (by omega) (fun k h => by omega))
  have k0 := hF4.cell g0 (by simp; omega)
  have b0 : w4.cell? ⟨H + 1, 0, none⟩ = some v := (Lib.cell_of_heap s1 _).trans rfl
  have S2 := Lib.hid s2
  rename_i K3 K4 hK4
  refine hK4 _ _ ?_
  clear hK4 g0 g1 g2 g3 s1 s2 s3 r0' r1'
  go_wp2_with fail
  have hj : Lib.join [[98, 101, 103, 105, 110], Lib.decDigits g, Lib.decDigits fn, Lib.decDigits pc] [32] = lineE ⟨1, g, fn, pc, 0⟩ := by
    simp [Lib.join, List.intercalate, lineE, itoa_nat]
  have HJ := Lib.hid hj
  refine (join_row w4 H v [[98, 101, 103, 105, 110], Lib.decDigits g, Lib.decDigits fn, Lib.decDigits pc] 4 rfl S2.out (by simp) (by simp) (by rw [hj]; have := lineE_len HR0.out ⟨by simp, by simp⟩; omega)).mono ?_
  rintro e w5 ⟨rfl, hb5⟩
  rename_i K5 K6 hK6
  refine hK6 _ _ ?_
  clear hK6
  go_wp2_with fail
  go_ret2
  exact ⟨by rw [HJ.out]; rfl, hb4.trans (hb5.mono hb4.size)⟩
def TabP (w : World) : Prop := Lib.TabIs Tryd.prog w "internal/strconv.uint64pow10" .u64 Lib.pow10Tab
theorem tab_lt {w : World} (h : TabP w) : 2 ≤ w.heap.size := by
  have hgn : Tryd.prog.globalNamed "internal/strconv.uint64pow10" = some 1 := by kernel_rfl
  unfold TabP Lib.TabIs World.var? at h
  rw [hgn] at h
  simp only [Option.bind_some] at h
  rcases Nat.lt_or_ge 1 w.heap.size with h' | h'
  · omega
  · rw [Array.getElem?_eq_none h'] at h; cases h
theorem tab_below {w w' : World} {B : Nat} (h : TabP w) (hb : Below B w w') (hB : w.heap.size ≤ B) : TabP w' := by
  have h0 := h
  have hgn : Tryd.prog.globalNamed "internal/strconv.uint64pow10" = some 1 := by kernel_rfl
  unfold TabP Lib.TabIs World.var? at h ⊢
  rw [hgn] at h ⊢
  simp only [Option.bind_some] at h ⊢
  rw [hb.block 1 (by have := tab_lt h0; omega)]
  exact h
theorem fmt_any (w : World) (n : Int) (hn : NumOk ⟨2, 0, 0, 0, n⟩) (htab : TabP w) : Calls Tryd.prog 69 #[.int .i64 n, .int .i64 10] w fun e w' => e = .returned (.string ⟨(Lib.itoa n).toArray⟩) ∧ Below w.heap.size w w' := by
  refine (Tryd.strconv_FormatInt_10 n hn.1 hn.2 w htab).mono ?_
  rintro e w' ⟨rfl, k, os, rfl⟩
  exact ⟨rfl, rfl, rfl, rfl, by simp, fun j hj => Go.Sort.heap_grow_old _ os hj⟩
set_option maxRecDepth 100000 in
set_option maxHeartbeats 1000000 in
theorem line_commit (w : World) (g fn pc : Nat) (n : Int) (hn : NumOk ⟨2, g, fn, pc, n⟩) (htab : TabP w) (hr : rightB ⟨2, g, fn, pc, n⟩ = true) (h1 : g < 100) (h2 : fn < 100) (h3 : pc < 100) : Calls Tryd.prog 21 #[.agg #[.int .i64 2, .int .i64 g, .int .i64 fn, .int .i64 pc, .int .i64 n]] w fun x w' => x = .returned (.tuple #[.string ⟨(lineE ⟨2, g, fn, pc, n⟩).toArray⟩, .int .i64 0]) ∧ Below w.heap.size w w' := by
  obtain ⟨wa, ha⟩ : ∃ wa, wa = (w.alloc (Obj.cells #[Value.int .i64 2, .int .i64 g, .int .i64 fn, .int .i64 pc, .int .i64 n] 38)) := ⟨_, rfl⟩
  have hba : Below w.heap.size w wa := by rw [ha]; exact (Below.refl _ _).alloc (Nat.le_refl _) _
  have hsz : wa.heap.size = w.heap.size + 1 := by rw [ha]; simp
  have HR := right_any wa 2 g fn pc n
  rw [hr] at HR
  have HR0 := Lib.hid hr
  have HR' := Lib.hid HR
  have HA := Lib.hid ha
  have c0 : wa.cell? ⟨w.heap.size, 0, none⟩ = some (.int .i64 2) := by rw [ha]; simp
  have c1 : wa.cell? ⟨w.heap.size, 1, none⟩ = some (.int .i64 g) := by rw [ha]; simp
  have c2 : wa.cell? ⟨w.heap.size, 2, none⟩ = some (.int .i64 fn) := by rw [ha]; simp
  have c3 : wa.cell? ⟨w.heap.size, 3, none⟩ = some (.int .i64 pc) := by rw [ha]; simp
  have c4 : wa.cell? ⟨w.heap.size, 4, none⟩ = some (.int .i64 n) := by rw [ha]; simp
  have HTAB := Lib.hid htab
  have HNU := Lib.hid hn
  clear ha HR hr htab hn
  go_enter Tryd.func21, Tryd.ntmps21
  go_wp2_with fail
  rw [← HA.out]
  refine HR'.out.mono ?_
  rintro e w1 ⟨rfl, hb1⟩
  have d0 := below_cell hb1 (Nat.le_refl _) c0
  have d1 := below_cell hb1 (Nat.le_refl _) c1
  have d2 := below_cell hb1 (Nat.le_refl _) c2
  have d3 := below_cell hb1 (Nat.le_refl _) c3
  have d4 := below_cell hb1 (Nat.le_refl _) c4
  clear c0 c1 c2 c3 c4
  have hs1 := hb1.size
  obtain ⟨H, hH⟩ : ∃ H, H = w1.heap.size := ⟨_, rfl⟩
  have hH' := hH.symm
  have HH := Lib.hid hH
  obtain ⟨wb, hwb⟩ : ∃ wb, wb = (w1.alloc (Obj.cells #[.string ⟨#[99, 111, 109, 109, 105, 116]⟩] 9)).alloc (Obj.cells #[.slice (some ⟨H, 0, none⟩) 1 1] 79) := ⟨_, rfl⟩
  have hF1 : Frm (fun _ => False) w1 wb := by rw [hwb]; exact ((Frm.refl _ _).alloc _).alloc _
  have hszb : wb.heap.size = H + 2 := by rw [hwb, hH]; simp
  have r0 : wb.heap[H]? = some (.cells #[.string ⟨#[99, 111, 109, 109, 105, 116]⟩] 9 (0, 0)) := by rw [hwb, heap_alloc_old _ _ (by simp; omega), hH]; exact heap_alloc_new _ _
  have r1 : wb.heap[H + 1]? = some (.cells #[.slice (some ⟨H, 0, none⟩) 1 1] 79 (0, 0)) := by
    have := heap_alloc_new (w1.alloc (Obj.cells #[.string ⟨#[99, 111, 109, 109, 105, 116]⟩] 9)) (Obj.cells #[.slice (some ⟨H, 0, none⟩) 1 1] 79)
    rw [hwb, hH]; rw [hH] at this; simpa using this
  have q0 : wb.cell? ⟨H, 0, none⟩ = some (.string ⟨#[99, 111, 109, 109, 105, 116]⟩) := (Lib.cell_of_heap r0 _).trans rfl
  have q1 : wb.cell? ⟨H + 1, 0, none⟩ = some (.slice (some ⟨H, 0, none⟩) 1 1) := (Lib.cell_of_heap r1 _).trans rfl
  have f0 : wb.frozen? ⟨H, 0, none⟩ = false := Lib.frozen_of_heap r0 0
  have e0 := hF1.cell d0 (fun e => e)
  have e1 := hF1.cell d1 (fun e => e)
  have e2 := hF1.cell d2 (fun e => e)
  have e3 := hF1.cell d3 (fun e => e)
  have e4 := hF1.cell d4 (fun e => e)
  have HWB := Lib.hid hwb
  clear d0 d1 d2 d3 d4 hwb hH
  rename_i K1 K2 hK2
  refine hK2 _ _ ?_
  clear hK2
  go_upto_region 4 with fail
  rw [← HWB.out]
  have hbc : Below w.heap.size w wb := (hba.trans (hb1.mono hba.size)).trans (Frm.below (B := w.heap.size) hF1 (by omega) (fun k h => h.elim))
  clear q0 q1 f0 hF1 HWB
  go_wp2_with fail
  refine (put_three wb H g fn pc [99, 111, 109, 109, 105, 116] h1 h2 h3 hszb r0 r1).mono ?_
  rintro e w4 ⟨rfl, v, s1, s2, s3, hF4⟩
  have hb4 : Below w.heap.size w w4 := hbc.trans (Frm.below (B := w.heap.size) hF4 (by omega) (fun k h => by omega))
  have k0 := hF4.cell e0 (by simp; omega)
  have k4 := hF4.cell e4 (by simp; omega)
  have b0 : w4.cell? ⟨H + 1, 0, none⟩ = some v := (Lib.cell_of_heap s1 _).trans rfl
  have S1 := Lib.hid s1
  have S2 := Lib.hid s2
  have S3 := Lib.hid s3
  have ht4 : TabP w4 := tab_below HTAB.out hb4 (Nat.le_refl _)
  have HT4 := Lib.hid ht4
  have hs4 := hF4.size
  rename_i K3 K4 hK4
  refine hK4 _ _ ?_
  clear hK4 e0 e1 e2 e3 e4 s1 s2 s3 r0 r1 ht4
  go_upto_region 9 with fail
  obtain ⟨i0, hi, hz0, hz1, hz2⟩ := info_parts info9
  have hm1 : 4 + 1 ≤ maxLen := by decide
  have hm2 : (4 + 1) * 16 ≤ 140737488355328 := by decide
  have hbw : H + 1 < w4.heap.size := by omega
  go_region_law (first
    | (go_simp; refine (fmt_any w4.drew n HNU.out HT4.out).mono ?_; rintro e w6 ⟨rfl, hb6⟩; have HB6 := Lib.hid hb6; have s6 : w6.heap[H + 1]? = some (.cells #[v] 79 (0, 0)) := (hb6.block _ hbw).trans S1.out; have hbw6 : H + 1 < w6.heap.size := lt_of_block s6; have b6 : w6.cell? ⟨H + 1, 0, none⟩ = some v := (Lib.cell_of_heap s6 _).trans rfl; have S6 := Lib.hid s6; have HRW := Lib.hid (row_below S2.out (below_pre hb6) (Nat.le_refl _)); have b6a : (w6.alloc (.cells #[.string ⟨(Lib.itoa n).toArray⟩] 9)).cell? ⟨H + 1, 0, none⟩ = some v := Lib.cell?_alloc_some _ b6; have hm3 : H ≤ (w6.alloc (.cells #[.string ⟨(Lib.itoa n).toArray⟩] 9)).heap.size := (by simp; omega); have HAP : Hid (∀ w3, (w6.alloc (.cells #[.string ⟨(Lib.itoa n).toArray⟩] 9)).grownBy w3 v.ownBlock → w3.heap[H + 1]? = some (.cells #[v] 79 (0, 0))) := Lib.hid (fun w3 hgr => by rw [hgr.block (H + 1) (by simp; omega) (Ne.symm S3.out)]; rw [heap_alloc_old _ _ hbw6]; exact S6.out); clear s6 hb6)
    | (refine step_append_lies _ rfl _ _ 79 rfl H 9 i0 (.string ⟨#[]⟩) 1 16 Tryd.underlying79 hi hz0 hz1 hz2 rfl (by decide) _ _ _ rfl (HRW.out.alloc _) ⟨w6.heap.size, 0, none⟩ 1 1 [.string ⟨(Lib.itoa n).toArray⟩] rfl rfl (news_of _ _ _) (by simp [Value.oneCell']) (by decide) hm1 hm2 hm3 (w6.heap.size + 1) (by simp) ?_; intro g' cap' w3 hown3 hgr hat hlt3; have c0' : w3.cell? ⟨H + 1, 0, none⟩ = some v := (Lib.cell_of_heap (HAP.out w3 hgr) _).trans rfl; have f0' : w3.frozen? ⟨H + 1, 0, none⟩ = false := Lib.frozen_of_heap (HAP.out w3 hgr) 0))
  all_goals
    have hbk3 := HAP.out w3 hgr
    have hgb : g' ≠ H + 1 := by
      rintro rfl
      obtain ⟨cur, q, _⟩ := row_block hown3 (g := H + 1) rfl
      rw [hbk3] at q; simp at q
    have HOW := Lib.hid (ownsRow_setCell_other hown3 (a := ⟨H + 1, 0, none⟩) (by simp [Value.ownBlock]; exact hgb) (.slice (some ⟨g', 0, none⟩) 5 cap'))
    have hbx : Below w.heap.size w (w3.setCell ⟨H + 1, 0, none⟩ (.slice (some ⟨g', 0, none⟩) 5 cap')) := by
      have a1 := hb4.trans (below_pre ((HB6.out).mono hb4.size))
      have a2 := a1.alloc a1.size (.cells #[.string ⟨(Lib.itoa n).toArray⟩] 9)
      refine (a2.grown hgr (by have := a2.size; omega) (fun k hk => ?_)).setCell (p := ⟨H + 1, 0, none⟩) (by simp; omega) _
      obtain ⟨_, _, q⟩ := row_block HRW.out hk
      omega
    obtain ⟨wz, hwz⟩ : ∃ wz, wz = w3.setCell ⟨H + 1, 0, none⟩ (.slice (some ⟨g', 0, none⟩) 5 cap') := ⟨_, rfl⟩
    have bz : wz.cell? ⟨H + 1, 0, none⟩ = some (.slice (some ⟨g', 0, none⟩) 5 cap') := by
      rw [hwz]
      have := heap_setCell_same w3 (H + 1) 0 _ _ (.slice (some ⟨g', 0, none⟩) 5 cap') hbk3
      exact (Lib.cell_of_heap this _).trans rfl
    rw [← hwz] at HOW hbx
    rw [← hwz]
    clear hwz hbk3 hgb hown3 hgr hat hlt3 c0' f0' HAP HRW HB6
    have hj : Lib.join [[99, 111, 109, 109, 105, 116], Lib.decDigits g, Lib.decDigits fn, Lib.decDigits pc, Lib.itoa n] [32] = lineE ⟨2, g, fn, pc, n⟩ := by
      simp [Lib.join, List.intercalate, lineE, itoa_nat]
    have HJ := Lib.hid hj
    have hlen5 : (lineE ⟨2, g, fn, pc, n⟩).length ≤ 200 := lineE_len HR0.out HNU.out
    clear hj
    go_wp2_with fail
    refine (join_row wz H _ [[99, 111, 109, 109, 105, 116], Lib.decDigits g, Lib.decDigits fn, Lib.decDigits pc, Lib.itoa n] 5 rfl HOW.out (by simp) (by simp) (by rw [HJ.out]; omega)).mono ?_
    rintro e w5 ⟨rfl, hb5⟩
    rename_i K5 K6 hK6
    refine hK6 _ _ ?_
    clear hK6
    go_wp2_with fail
    go_ret2
    exact ⟨by rw [HJ.out]; rfl, hbx.trans (hb5.mono hbx.size)⟩
theorem line_any (w : World) (e : Ev) (hn : NumOk e) (htab : TabP w) : Calls Tryd.prog 21 #[evV e] w fun x w' => x = .returned (.tuple #[.string ⟨(lineT e).toArray⟩, .int .i64 (faultT (rightB e))]) ∧ Below w.heap.size w w' := by
  obtain ⟨kind, g, fn, pc, n⟩ := e
  cases hr : rightB ⟨kind, g, fn, pc, n⟩ with
  | false =>
    simp only [lineT, hr, faultT]
    exact line_bad w kind g fn pc n hr
  | true =>
    simp only [lineT, hr, faultT]
    obtain ⟨h0, h1, h2, h3, h4, h5, h6⟩ := right_bd hr
    simp only at h0 h1 h2 h3 h4 h5 h6
    obtain ⟨g, rfl⟩ : ∃ G : Nat, g = G := ⟨g.toNat, by omega⟩
    obtain ⟨fn, rfl⟩ : ∃ G : Nat, fn = G := ⟨fn.toNat, by omega⟩
    obtain ⟨pc, rfl⟩ : ∃ G : Nat, pc = G := ⟨pc.toNat, by omega⟩
    rcases h0 with rfl | ⟨rfl, rfl⟩
    · exact line_commit w g fn pc n hn htab hr (by omega) (by omega) (by omega)
    · exact line_begin w g fn pc hr (by omega) (by omega) (by omega)
end Go.Proofs.YtfcoigcenheefaaDoor
