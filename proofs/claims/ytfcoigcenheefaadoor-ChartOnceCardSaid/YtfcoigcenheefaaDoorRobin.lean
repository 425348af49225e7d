import Derived.Test.YtfcoigcenheefaaDoorBase
import Derived.Test.YtfcoigcenheefaaDoorShelf
import Derived.Test.YtfcoigcenheefaaDoorInv
set_option linter.unusedVariables false
set_option linter.unusedSimpArgs false
namespace Go.Proofs.YtfcoigcenheefaaDoor
open Go.RowKit
theorem Tryd.info32 : (Tryd.prog.info? 32).map (fun i => (i.zero, i.size, i.bytes)) = some (some (.agg #[.int .i64 0, .int .i64 0, .int .i64 0]), 3, 24) := by kernel_rfl
/-- The cells of the entries that robin gives. -/
def robC (delay : Int) (i : Nat) : List Value := [.int .i64 i, .int .i64 delay, .int .i64 i]
def robL (delay : Int) (k : Nat) : List Value := (List.range k).flatMap (robC delay)
theorem robL_succ (delay : Int) (k : Nat) : robL delay (k + 1) = robL delay k ++ robC delay k := by simp [robL, List.range_succ]
theorem robL_len (delay : Int) (k : Nat) : (robL delay k).length = k * 3 := by
  induction k with
  | zero => rfl
  | succ k ih => rw [robL_succ, List.length_append, ih]; simp [robC]; omega
def robN (n : Int) : Nat := (min (max n 0) 65536).toNat
theorem robin_any (w : World) (n delay : Int) :
    Calls Tryd.prog 19 #[.int .i64 n, .int .i64 delay] w fun e w' => ∃ r, e = .returned r ∧ w'.ownsRow w.heap.size 32 3 r (robN n) (robL delay (robN n)) ∧ Below w.heap.size w w' := by
  obtain ⟨M, hM⟩ : ∃ M, M = robN n := ⟨_, rfl⟩
  have hM1 : M ≤ 65536 := by rw [hM]; unfold robN; omega
  have hM2 : (M : Int) ≤ 65536 := by omega
  have HM : Hid (min (max n 0) 65536 = (M : Int)) := by show _ = _; rw [hM]; unfold robN; omega
  rw [← hM]
  clear hM
  go_enter Tryd.func19, Tryd.ntmps19
  go_wp2_with fail
  rw [HM.out]
  go_loopw [4, 5, 9] (fun s4 s5 s9 wr => ∃ k : Nat, k ≤ M ∧ s9 = .int .i64 k ∧ wr.ownsRow w.heap.size 32 3 s4 k (robL delay k) ∧ Below w.heap.size w wr) (fun _ _ s9 _ => M - (intOf s9).toNat)
  case atStart => exact ⟨0, Nat.zero_le _, rfl, World.ownsRow_nil _ _ _ _, Below.refl _ _⟩
  case round =>
    obtain ⟨k, hk, rfl, hown, hb⟩ := hrel
    have hz1 := hb.size
    by_cases hlt : k < M
    · have k1 : (k : Int) < (M : Int) := by omega
      have k0 : (0 : Int) ≤ (k : Int) := by omega
      have k2 : (k : Int) ≤ 65536 := by omega
      have HS := Lib.hid (robL_succ delay k)
      go_wp2_with (at_builtin; refine wpList_app wr 32 [.int .i64 k, .int .i64 delay, .int .i64 k] rfl _ _ 29 rfl w.heap.size _ 3 24 Tryd.underlying29 Tryd.info32 rfl (by decide) _ _ _ rfl hown _ rfl (by simp) rfl rfl (by omega) (by omega) hz1 w.heap.size w hb (Nat.le_refl _) ?_; intro gg cap w' hown' hb' _ _)
      go_roundw
      case rel => exact ⟨k + 1, by omega, by go_num, by rw [HS.out]; exact hown', hb'⟩
      case measure => simp [intOf]; omega
    · have e : k = M := by omega
      have HE := Lib.hid e
      clear e
      go_wp2_with fail
      go_ret
      exact ⟨_, rfl, by rw [← HE.out]; exact hown, hb⟩
end Go.Proofs.YtfcoigcenheefaaDoor
