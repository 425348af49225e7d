/-
  cmp.Compare, cmp.isNaN at int and int64, and how a box of signals lies in memory: what each call returns; no condition.
-/
import Derived.Test.YtfcoigcenheefaaFair
import Derived.BigRegion
set_option linter.unusedVariables false
set_option linter.unusedSimpArgs false
namespace Go.Proofs.Ytfcoigcenheefaa
open Go.RowKit

def flat (L : List (Int × Int)) : List Value := L.flatMap fun s => [.int .i64 s.1, .int .i64 s.2]
theorem flat_len (L : List (Int × Int)) : (flat L).length = L.length * 2 := by
  induction L with
  | nil => rfl
  | cons a l ih => simp [flat] at ih ⊢; omega
theorem flat_get0 (L : List (Int × Int)) (i : Nat) (h : i < L.length) : (flat L)[i * 2]? = some (.int .i64 (L.getD i (0, 0)).1) := by
  induction L generalizing i with
  | nil => simp at h
  | cons a l ih =>
    cases i with
    | zero => simp [flat]
    | succ i =>
      have := ih i (by simpa using h)
      rw [show (i + 1) * 2 = i * 2 + 2 by omega]
      simpa [flat, List.getD] using this
theorem flat_get1 (L : List (Int × Int)) (i : Nat) (h : i < L.length) : (flat L)[i * 2 + 1]? = some (.int .i64 (L.getD i (0, 0)).2) := by
  induction L generalizing i with
  | nil => simp at h
  | cons a l ih =>
    cases i with
    | zero => simp [flat]
    | succ i =>
      have := ih i (by simpa using h)
      rw [show (i + 1) * 2 + 1 = i * 2 + 1 + 2 by omega]
      simpa [flat, List.getD] using this
theorem flat_set (L : List (Int × Int)) (i : Nat) (s : Int × Int) (h : i < L.length) : ((flat L).set (i * 2) (.int .i64 s.1)).set (i * 2 + 1) (.int .i64 s.2) = flat (L.set i s) := by
  induction L generalizing i with
  | nil => simp at h
  | cons a l ih =>
    cases i with
    | zero => simp [flat]
    | succ i =>
      have := ih i (by simpa using h)
      rw [show (i + 1) * 2 = i * 2 + 1 + 1 by omega]
      simpa [flat] using this

structure Box (w : World) (b : Nat) (sv : Value) (L : List (Int × Int)) (A : List Int) : Prop where
  blk : w.heap[b]? = some (.cells (sv :: A.map (Value.int .i64)).toArray 54 (0, 0))
  alen : A.length = 64
  own : w.ownsRow 0 58 2 sv L.length (flat L)

theorem Box.c0 {w : World} {b : Nat} {sv : Value} {L : List (Int × Int)} {A : List Int} (h : Box w b sv L A) : w.cell? ⟨b, 0, none⟩ = some sv := by
  rw [cell_of_row _ _ 0 _ _ _ h.blk]; rfl
theorem Box.cA {w : World} {b : Nat} {sv : Value} {L : List (Int × Int)} {A : List Int} (h : Box w b sv L A) (m : Nat) (hm : m < 64) : w.cell? ⟨b, 1 + m, none⟩ = some (.int .i64 (A.getD m 0)) := by
  rw [cell_of_row _ _ (1 + m) _ _ _ h.blk]
  have : m < A.length := by rw [h.alen]; exact hm
  simp [Nat.add_comm 1 m, List.getD, this]
theorem Box.fz {w : World} {b : Nat} {sv : Value} {L : List (Int × Int)} {A : List Int} (h : Box w b sv L A) (j : Nat) : w.frozen? ⟨b, j, none⟩ = false := frozen_of_row _ _ _ _ _ h.blk

/-- cmp.Compare. -/
def cmpI (a b : Int) : Int := if a < b then -1 else if b < a then 1 else 0
set_option maxHeartbeats 400000 in
theorem isNaN2 (a : Int) (w : World) : Calls Try.prog 49 #[.int .i64 a] w fun e w' => e = .returned (.bool false) ∧ w' = w := by
  have h : (a != a) = false := by simp
  go_enter Try.func49, Try.ntmps49
  go_wp2
  go_ret
  exact ⟨by simp, rfl⟩
set_option maxHeartbeats 400000 in
theorem isNaN3 (a : Int) (w : World) : Calls Try.prog 50 #[.int .i64 a] w fun e w' => e = .returned (.bool false) ∧ w' = w := by
  have h : (a != a) = false := by simp
  go_enter Try.func50, Try.ntmps50
  go_wp2
  go_ret
  exact ⟨by simp, rfl⟩
set_option maxHeartbeats 400000 in
theorem compare2 (a b : Int) (w : World) : Calls Try.prog 47 #[.int .i64 a, .int .i64 b] w fun e w' => e = .returned (.int .i64 (cmpI a b)) ∧ w' = w := by
  go_enter Try.func47, Try.ntmps47
  go_wp2_with (go_at_call 49; refine (isNaN2 _ _).mono ?_; rintro e w' ⟨rfl, hw⟩; cases hw)
  all_goals go_ret
  all_goals refine ⟨?_, rfl⟩
  all_goals (unfold cmpI; simp [*])
  all_goals omega
set_option maxHeartbeats 400000 in
theorem compare3 (a b : Int) (w : World) : Calls Try.prog 48 #[.int .i64 a, .int .i64 b] w fun e w' => e = .returned (.int .i64 (cmpI a b)) ∧ w' = w := by
  go_enter Try.func48, Try.ntmps48
  go_wp2_with (go_at_call 50; refine (isNaN3 _ _).mono ?_; rintro e w' ⟨rfl, hw⟩; cases hw)
  all_goals go_ret
  all_goals refine ⟨?_, rfl⟩
  all_goals (unfold cmpI; simp [*])
  all_goals omega
end Go.Proofs.Ytfcoigcenheefaa
