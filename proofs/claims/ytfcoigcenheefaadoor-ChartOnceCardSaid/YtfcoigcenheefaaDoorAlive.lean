import Derived.Test.YtfcoigcenheefaaDoorHead
set_option linter.unusedVariables false
set_option linter.unusedSimpArgs false
namespace Go.Proofs.YtfcoigcenheefaaDoor
open Go.RowKit
set_option maxRecDepth 100000 in
theorem op_begin (w : World) :
    Calls Tryd.prog 34 #[.agg #[.slice none 0 0], .agg #[.int .i64 1, .int .i64 0, .int .i64 0, .int .i64 0, .int .i64 0]] w fun e w' => e = .returned (.int .i64 (-1)) ∧ Below w.heap.size w w' := by
  go_enter Tryd.func34, Tryd.ntmps34
  go_wp2_with (go_quiet (fail))
  go_ret
  exact ⟨rfl, (((Below.refl _ _).alloc (Nat.le_refl _) _).alloc (by simp) _).trans (below_drewN _ _ _)⟩
theorem sign_begin (w : World) :
    Calls Tryd.prog 63 #[.agg #[.slice none 0 0], .agg #[.int .i64 1, .int .i64 0, .int .i64 0, .int .i64 0, .int .i64 0]] w fun e w' => e = .returned (.int .u8 40) ∧ Below w.heap.size w w' := by
  go_enter Tryd.func63, Tryd.ntmps63
  go_wp2_with (go_quiet (fail))
  obtain ⟨wa, ha⟩ : ∃ wa, wa = ((w.alloc (Obj.cells #[Value.slice none 0 0] 44)).alloc (Obj.cells #[Value.int IntKind.i64 1, Value.int IntKind.i64 0, Value.int IntKind.i64 0, Value.int IntKind.i64 0, Value.int IntKind.i64 0] 38)) := ⟨_, rfl⟩
  have hba : Below w.heap.size w wa := by rw [ha]; exact ((Below.refl _ _).alloc (Nat.le_refl _) _).alloc (by simp) _
  have hcell : wa.cell? ⟨w.heap.size + 1, 0, none⟩ = some (.int .i64 1) := by rw [ha]; simp
  rw [← ha]
  refine (op_begin wa).mono ?_
  rintro e w1 ⟨rfl, hb⟩
  have hc1 := below_cell hb (Nat.le_refl _) hcell
  have hb1 := hba.trans (hb.mono hba.size)
  clear hcell hb ha hba
  rename_i K1 K2 hK2
  refine hK2 _ _ ?_
  clear hK2
  go_wp2_with (go_quiet (fail))
  go_ret
  exact ⟨rfl, by first | exact hb1 | exact hb1.trans (below_drewN _ _ _)⟩
theorem alive_any (w : World) :
    Calls Tryd.prog 12 #[] w fun e w' => e = .returned (.bool true) ∧ Below w.heap.size w w' := by
  have HH := head_any w 5 2 (by decide) (by decide) (by decide)
  have HE : Hid (headL 2 5 = [124, 32, 124, 32, 124]) := by show _ = _; decide
  go_enter Tryd.func12, Tryd.ntmps12
  go_wp2_with fail
  refine HH.mono ?_
  rintro e w1 ⟨rfl, hb⟩
  rename_i K1 K2 hK2
  refine hK2 _ _ ?_
  clear hK2 HH
  rw [HE.out]
  go_wp2_with fail
  refine (sign_begin w1).mono ?_
  rintro e w2 ⟨rfl, hb2⟩
  rename_i K1 K2 hK2
  refine hK2 _ _ ?_
  clear hK2
  go_wp2_with fail
  go_ret
  exact ⟨rfl, hb.trans (hb2.mono hb.size)⟩
end Go.Proofs.YtfcoigcenheefaaDoor
