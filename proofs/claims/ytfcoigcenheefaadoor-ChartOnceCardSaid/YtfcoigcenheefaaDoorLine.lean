import Derived.Test.YtfcoigcenheefaaDoorBuild
import Derived.Test.YtfcoigcenheefaaDoorRobin
set_option linter.unusedVariables false
set_option linter.unusedSimpArgs false
namespace Go.Proofs.YtfcoigcenheefaaDoor
open Go.RowKit
theorem dec0 : Lib.decDigits 0 = [48] := by kernel_rfl
theorem dec1 : Lib.decDigits 1 = [49] := by kernel_rfl
theorem dec2 : Lib.decDigits 2 = [50] := by kernel_rfl
theorem dec3 : Lib.decDigits 3 = [51] := by kernel_rfl
theorem itoa_one (a : Nat) (x : UInt8) (ha : a < 10) (hx : Lib.decDigits a = [x]) (w : World) : Calls Tryd.prog 68 #[.int .i64 a] w fun e w' => e = .returned (.string ⟨#[x]⟩) ∧ w' = w := by
  have := Tryd.strconv_Itoa_small a (by omega) w
  rw [hx] at this
  exact this
set_option maxRecDepth 100000 in
theorem line_small (w : World) (a b c : Nat) (x y z : UInt8) (ha : a < 10) (hb : b < 10) (hc : c < 10) (hx : Lib.decDigits a = [x]) (hy : Lib.decDigits b = [y]) (hz : Lib.decDigits c = [z]) :
    Calls Tryd.prog 130 #[.int .i64 a, .int .i64 b, .int .i64 c] w fun e w' => e = .returned (.string ⟨#[x, 32, y, 32, z]⟩) ∧ w' = w := by
  have HA := Lib.hid (itoa_one a x ha hx w)
  have HB := Lib.hid (itoa_one b y hb hy w)
  have HC := Lib.hid (itoa_one c z hc hz w)
  clear hx hy hz
  go_enter Tryd.func130, Tryd.ntmps130
  go_wp2_with fail
  refine HA.out.mono ?_
  rintro e w1 ⟨rfl, hw⟩; cases hw
  rename_i K1 K2 hK2
  refine hK2 _ _ ?_
  clear hK2
  go_wp2_with fail
  refine HB.out.mono ?_
  rintro e w1 ⟨rfl, hw⟩; cases hw
  rename_i K1 K2 hK2
  refine hK2 _ _ ?_
  clear hK2
  go_wp2_with fail
  refine HC.out.mono ?_
  rintro e w1 ⟨rfl, hw⟩; cases hw
  rename_i K1 K2 hK2
  refine hK2 _ _ ?_
  clear hK2
  go_wp2_with fail
  go_ret
  refine ⟨?_, rfl⟩
  rfl
theorem confOne_any (w : World) (a m : Int) (h1 : 1 ≤ a) (h2 : a ≤ m) : Calls Tryd.prog 185 #[.int .i64 a, .int .i64 m] w fun e w' => e = .returned (.bool false) ∧ w' = w := by
  go_enter Tryd.func185, Tryd.ntmps185
  go_wp2_with fail
  go_ret
  refine ⟨?_, rfl⟩
  simp; omega
set_option maxRecDepth 100000 in
theorem vconf_any (w : World) : Calls Tryd.prog 131 #[.agg #[.int .i64 1, .int .i64 2, .int .i64 3]] w fun e w' => e = .returned (.int .i64 0) ∧ Below w.heap.size w w' := by
  obtain ⟨wa, ha⟩ : ∃ wa, wa = (w.alloc (Obj.cells #[Value.int IntKind.i64 1, Value.int IntKind.i64 2, Value.int IntKind.i64 3] 68)) := ⟨_, rfl⟩
  have hba : Below w.heap.size w wa := by rw [ha]; exact (Below.refl _ _).alloc (Nat.le_refl _) _
  have c1 : wa.cell? ⟨w.heap.size, 1, none⟩ = some (.int .i64 2) := by rw [ha]; simp
  have c2 : wa.cell? ⟨w.heap.size, 2, none⟩ = some (.int .i64 3) := by rw [ha]; simp
  have H1 := Lib.hid (confOne_any wa 1 256 (by decide) (by decide))
  have H2 := Lib.hid (confOne_any wa 2 64 (by decide) (by decide))
  have H3 := Lib.hid (confOne_any wa 3 64 (by decide) (by decide))
  have HA := Lib.hid ha
  clear ha
  go_enter Tryd.func131, Tryd.ntmps131
  go_wp2_with fail
  rw [← HA.out]
  refine H1.out.mono ?_
  rintro e w1 ⟨rfl, hw⟩; cases hw
  rename_i K1 K2 hK2
  refine hK2 _ _ ?_
  clear hK2
  go_wp2_with fail
  refine H2.out.mono ?_
  rintro e w1 ⟨rfl, hw⟩; cases hw
  rename_i K1 K2 hK2
  refine hK2 _ _ ?_
  clear hK2
  go_wp2_with fail
  refine H3.out.mono ?_
  rintro e w1 ⟨rfl, hw⟩; cases hw
  rename_i K1 K2 hK2
  refine hK2 _ _ ?_
  clear hK2
  go_wp2_with fail
  go_ret
  exact ⟨rfl, hba⟩
set_option maxRecDepth 100000 in
theorem words_any (w : World) : Calls Tryd.prog 66 #[.agg #[.int .i64 1, .int .i64 2, .int .i64 3]] w fun e w' => e = .returned (.string ⟨#[49, 32, 50, 32, 51]⟩) ∧ Below w.heap.size w w' := by
  obtain ⟨wa, ha⟩ : ∃ wa, wa = (w.alloc (Obj.cells #[Value.int IntKind.i64 1, Value.int IntKind.i64 2, Value.int IntKind.i64 3] 68)) := ⟨_, rfl⟩
  have hba : Below w.heap.size w wa := by rw [ha]; exact (Below.refl _ _).alloc (Nat.le_refl _) _
  have c0 : wa.cell? ⟨w.heap.size, 0, none⟩ = some (.int .i64 1) := by rw [ha]; simp
  have c1 : wa.cell? ⟨w.heap.size, 1, none⟩ = some (.int .i64 2) := by rw [ha]; simp
  have c2 : wa.cell? ⟨w.heap.size, 2, none⟩ = some (.int .i64 3) := by rw [ha]; simp
  have HA := Lib.hid ha
  clear ha
  go_enter Tryd.func66, Tryd.ntmps66
  go_wp2_with fail
  rw [← HA.out]
  refine (vconf_any wa).mono ?_
  rintro e w1 ⟨rfl, hb1⟩
  have d0 := below_cell hb1 (Nat.le_refl _) c0
  have d1 := below_cell hb1 (Nat.le_refl _) c1
  have d2 := below_cell hb1 (Nat.le_refl _) c2
  have hb := hba.trans (hb1.mono hba.size)
  clear c0 c1 c2 HA hb1 hba
  rename_i K1 K2 hK2
  refine hK2 _ _ ?_
  clear hK2
  go_wp2_with fail
  refine (line_small w1 1 2 3 49 50 51 (by decide) (by decide) (by decide) dec1 dec2 dec3).mono ?_
  rintro e w2 ⟨rfl, hw⟩; cases hw
  rename_i K1 K2 hK2
  refine hK2 _ _ ?_
  clear hK2
  go_wp2_with fail
  go_ret
  exact ⟨rfl, hb⟩
end Go.Proofs.YtfcoigcenheefaaDoor
