import Derived.Test.YtfcoigcenheefaaDoorEvRight
import Derived.Test.YtfcoigcenheefaaDoorDecimal
set_option linter.unusedVariables false
set_option linter.unusedSimpArgs false
namespace Go.Proofs.YtfcoigcenheefaaDoor
open Go.RowKit
/-- The text of an event. -/
def lineE (e : Ev) : List UInt8 :=
  if e.kind = 1 then [98, 101, 103, 105, 110] ++ 32 :: Lib.itoa e.g ++ 32 :: Lib.itoa e.fn ++ 32 :: Lib.itoa e.pc
  else [99, 111, 109, 109, 105, 116] ++ 32 :: Lib.itoa e.g ++ 32 :: Lib.itoa e.fn ++ 32 :: Lib.itoa e.pc ++ 32 :: Lib.itoa e.n
theorem rline_bad (w : World) (kind g fn pc n : Int) (hb : rightB ⟨kind, g, fn, pc, n⟩ = false) : Calls Tryd.prog 22 #[.agg #[.int .i64 kind, .int .i64 g, .int .i64 fn, .int .i64 pc, .int .i64 n]] w fun x w' => x = .returned (.tuple #[.string ⟨#[]⟩, .int .i64 1]) ∧ Below w.heap.size w w' := by
  obtain ⟨wa, ha⟩ : ∃ wa, wa = (w.alloc (Obj.cells #[Value.int .i64 kind, .int .i64 g, .int .i64 fn, .int .i64 pc, .int .i64 n] 38)) := ⟨_, rfl⟩
  have hba : Below w.heap.size w wa := by rw [ha]; exact (Below.refl _ _).alloc (Nat.le_refl _) _
  have HR := rright_any wa kind g fn pc n
  rw [hb] at HR
  have HR' := Lib.hid HR
  have HA := Lib.hid ha
  clear ha HR hb
  go_enter Tryd.func22, Tryd.ntmps22
  go_wp2_with fail
  rw [← HA.out]
  refine HR'.out.mono ?_
  rintro e w1 ⟨rfl, hb1⟩
  rename_i K1 K2 hK2
  refine hK2 _ _ ?_
  clear hK2
  go_wp2_with fail
  go_ret2
  exact ⟨rfl, hba.trans (hb1.mono hba.size)⟩
end Go.Proofs.YtfcoigcenheefaaDoor
