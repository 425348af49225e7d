import Derived.Test.YtfcoigcenheefaaDoorBuild
import Derived.Test.YtfcoigcenheefaaDoorGapA
set_option linter.unusedVariables false
set_option linter.unusedSimpArgs false
namespace Go.Proofs.YtfcoigcenheefaaDoor
open Go.RowKit
def evV (e : Ev) : Value := .agg #[.int .i64 e.kind, .int .i64 e.g, .int .i64 e.fn, .int .i64 e.pc, .int .i64 e.n]
def inB (n a b : Int) : Bool := decide (a ≤ n) && decide (n < b)
def rightB (e : Ev) : Bool := (decide (e.kind = 2) || (decide (e.kind = 1) && decide (e.n = 0))) && (inB e.g 1 65 && (inB e.fn 0 16 && inB e.pc 0 64))
theorem within_any (w : World) (n a b : Int) : Calls Tryd.prog 72 #[.int .i64 n, .int .i64 a, .int .i64 b] w fun e w' => e = .returned (.bool (inB n a b)) ∧ w' = w := by
  have H := Lib.hid (show inB n a b = (decide (a ≤ n) && decide (n < b)) from rfl)
  go_enter Tryd.func72, Tryd.ntmps72
  go_wp2_with fail
  all_goals go_ret
  all_goals (refine ⟨?_, rfl⟩; rw [H.out]; simp <;> omega)
set_option maxRecDepth 100000 in
theorem rright_any (w : World) (kind g fn pc n : Int) : Calls Tryd.prog 24 #[.agg #[.int .i64 kind, .int .i64 g, .int .i64 fn, .int .i64 pc, .int .i64 n]] w fun x w' => x = .returned (.bool (rightB ⟨kind, g, fn, pc, n⟩)) ∧ Below w.heap.size w w' := by
  go_enter Tryd.func24, Tryd.ntmps24
  go_wp2_with fail
  all_goals go_ret
  all_goals refine ⟨congrArg (fun b => Ending.returned (Value.bool b)) (Bool.eq_iff_iff.2 ?_), (Below.refl _ _).alloc (Nat.le_refl _) _⟩
  all_goals (try simp only [bne_iff_ne, ne_eq, bne_eq_false_iff_eq] at *)
  all_goals (simp [rightB, inB] <;> omega)
set_option maxRecDepth 100000 in
set_option maxHeartbeats 1000000 in
theorem right_any (w : World) (kind g fn pc n : Int) : Calls Tryd.prog 23 #[.agg #[.int .i64 kind, .int .i64 g, .int .i64 fn, .int .i64 pc, .int .i64 n]] w fun x w' => x = .returned (.bool (rightB ⟨kind, g, fn, pc, n⟩)) ∧ Below w.heap.size w w' := by
  have HR := Lib.hid (show rightB ⟨kind, g, fn, pc, n⟩ = ((decide (kind = 2) || (decide (kind = 1) && decide (n = 0))) && (inB g 1 65 && (inB fn 0 16 && inB pc 0 64))) from rfl)
  by_cases h1 : kind = 1
  · by_cases h2 : n = 0
    · subst h1 h2
      obtain ⟨wa, ha⟩ : ∃ wa, wa = (w.alloc (Obj.cells #[Value.int .i64 1, .int .i64 g, .int .i64 fn, .int .i64 pc, .int .i64 0] 38)) := ⟨_, rfl⟩
      have hba : Below w.heap.size w wa := by rw [ha]; exact (Below.refl _ _).alloc (Nat.le_refl _) _
      have c1 : wa.cell? ⟨w.heap.size, 1, none⟩ = some (.int .i64 g) := by rw [ha]; simp
      have c2 : wa.cell? ⟨w.heap.size, 2, none⟩ = some (.int .i64 fn) := by rw [ha]; simp
      have c3 : wa.cell? ⟨w.heap.size, 3, none⟩ = some (.int .i64 pc) := by rw [ha]; simp
      have HA := Lib.hid ha
      clear ha
      go_enter Tryd.func23, Tryd.ntmps23
      go_wp2_with fail
      rw [← HA.out]
      refine (within_any wa g 1 65).mono ?_
      rintro e w1 ⟨rfl, hw⟩; cases hw
      rename_i K1 K2 hK2
      refine hK2 _ _ ?_
      clear hK2
      obtain ⟨x1, hx1⟩ : ∃ x, inB g 1 65 = x := ⟨_, rfl⟩
      have HX1 := Lib.hid hx1
      rw [hx1]
      clear hx1
      cases x1
      · go_wp2_with fail
        go_ret
        exact ⟨by rw [HR.out, HX1.out]; simp, hba⟩
      · go_wp2_with fail
        refine (within_any wa fn 0 16).mono ?_
        rintro e w1 ⟨rfl, hw⟩; cases hw
        rename_i K1 K2 hK2
        refine hK2 _ _ ?_
        clear hK2
        obtain ⟨x2, hx2⟩ : ∃ x, inB fn 0 16 = x := ⟨_, rfl⟩
        have HX2 := Lib.hid hx2
        rw [hx2]
        clear hx2
        cases x2
        · go_wp2_with fail
          go_ret
          exact ⟨by rw [HR.out, HX1.out, HX2.out]; simp, hba⟩
        · go_wp2_with fail
          refine (within_any wa pc 0 64).mono ?_
          rintro e w1 ⟨rfl, hw⟩; cases hw
          rename_i K1 K2 hK2
          refine hK2 _ _ ?_
          clear hK2
          go_wp2_with fail
          go_ret
          exact ⟨by rw [HR.out, HX1.out, HX2.out]; simp, hba⟩
    · subst h1
      have h3 : (n != 0) = true := by simpa using h2
      go_enter Tryd.func23, Tryd.ntmps23
      go_wp2_with fail
      go_ret
      exact ⟨by rw [HR.out]; simp [h2], (Below.refl _ _).alloc (Nat.le_refl _) _⟩
  · by_cases h2 : kind = 2
    · subst h2
      obtain ⟨wa, ha⟩ : ∃ wa, wa = (w.alloc (Obj.cells #[Value.int .i64 2, .int .i64 g, .int .i64 fn, .int .i64 pc, .int .i64 n] 38)) := ⟨_, rfl⟩
      have hba : Below w.heap.size w wa := by rw [ha]; exact (Below.refl _ _).alloc (Nat.le_refl _) _
      have c1 : wa.cell? ⟨w.heap.size, 1, none⟩ = some (.int .i64 g) := by rw [ha]; simp
      have c2 : wa.cell? ⟨w.heap.size, 2, none⟩ = some (.int .i64 fn) := by rw [ha]; simp
      have c3 : wa.cell? ⟨w.heap.size, 3, none⟩ = some (.int .i64 pc) := by rw [ha]; simp
      have HA := Lib.hid ha
      clear ha
      go_enter Tryd.func23, Tryd.ntmps23
      go_wp2_with fail
      rw [← HA.out]
      refine (within_any wa g 1 65).mono ?_
      rintro e w1 ⟨rfl, hw⟩; cases hw
      rename_i K1 K2 hK2
      refine hK2 _ _ ?_
      clear hK2
      obtain ⟨x1, hx1⟩ : ∃ x, inB g 1 65 = x := ⟨_, rfl⟩
      have HX1 := Lib.hid hx1
      rw [hx1]
      clear hx1
      cases x1
      · go_wp2_with fail
        go_ret
        exact ⟨by rw [HR.out, HX1.out]; simp, hba⟩
      · go_wp2_with fail
        refine (within_any wa fn 0 16).mono ?_
        rintro e w1 ⟨rfl, hw⟩; cases hw
        rename_i K1 K2 hK2
        refine hK2 _ _ ?_
        clear hK2
        obtain ⟨x2, hx2⟩ : ∃ x, inB fn 0 16 = x := ⟨_, rfl⟩
        have HX2 := Lib.hid hx2
        rw [hx2]
        clear hx2
        cases x2
        · go_wp2_with fail
          go_ret
          exact ⟨by rw [HR.out, HX1.out, HX2.out]; simp, hba⟩
        · go_wp2_with fail
          refine (within_any wa pc 0 64).mono ?_
          rintro e w1 ⟨rfl, hw⟩; cases hw
          rename_i K1 K2 hK2
          refine hK2 _ _ ?_
          clear hK2
          go_wp2_with fail
          go_ret
          exact ⟨by rw [HR.out, HX1.out, HX2.out]; simp, hba⟩
    · go_enter Tryd.func23, Tryd.ntmps23
      go_wp2_with fail
      go_ret
      exact ⟨by rw [HR.out]; simp [h1, h2], (Below.refl _ _).alloc (Nat.le_refl _) _⟩
end Go.Proofs.YtfcoigcenheefaaDoor
