import Derived.Test.YtfcoigcenheefaaDoorLine
set_option linter.unusedVariables false
set_option linter.unusedSimpArgs false
namespace Go.Proofs.YtfcoigcenheefaaDoor
open Go.RowKit
theorem bat_alloc {B b : Nat} {p : Value} {bs : List Value} {w : World} (h : Lib.BuilderAt 106 5 B b p bs w) (o : Obj) : Lib.BuilderAt 106 5 B b p bs (w.alloc o) := by
  have hl := h.lt
  obtain ⟨hB, v, hb, hown, hne⟩ := h
  exact ⟨hB, v, by rw [heap_alloc_old w o hl]; exact hb, hown.alloc _, hne⟩
theorem isB_alloc {B b : Nat} {bs : List Value} {w : World} (h : Lib.IsBuilder 106 5 B b bs w) (o : Obj) : Lib.IsBuilder 106 5 B b bs (w.alloc o) := h.imp (fun h => bat_alloc h o) (fun h => bat_alloc h o)
def pT (k : Nat) : List UInt8 := ([48, 32, 49, 32, 48, 10, 49, 32, 49, 32, 49, 10] : List UInt8).take (6 * k)
theorem pT_len (k : Nat) : (pT k).length ≤ 12 := by unfold pT; rw [List.length_take]; simp; omega
theorem pT_step (k : Nat) (h : k < 2) : ∃ x, Lib.decDigits k = [x] ∧ pT (k + 1) = pT k ++ [x, 32, 49, 32, x, 10] := by
  rcases k with _ | _ | k
  · exact ⟨48, dec0, rfl⟩
  · exact ⟨49, dec1, rfl⟩
  · omega
set_option maxRecDepth 100000 in
theorem print_two (w : World) (g cap : Nat) (hc : ∀ k, k < 2 → w.cell? ⟨g, k * 3, none⟩ = some (.int .i64 k) ∧ w.cell? ⟨g, k * 3 + 1, none⟩ = some (.int .i64 1) ∧ w.cell? ⟨g, k * 3 + 2, none⟩ = some (.int .i64 k)) :
    Calls Tryd.prog 65 #[.slice (some ⟨g, 0, none⟩) 2 cap] w fun e w' => e = .returned (.string ⟨(pT 2).toArray⟩) ∧ Below w.heap.size w w' := by
  have HC := Lib.hid hc
  clear hc
  go_enter Tryd.func65, Tryd.ntmps65
  go_wp2_with fail
  go_loopw [6, 10] (fun s6 s10 wr => ∃ k : Nat, k ≤ 2 ∧ s10 = .int .i64 k ∧ Lib.IsBuilder 106 5 w.heap.size w.heap.size (Lib.byteCells (pT k)) wr ∧ Below w.heap.size w wr) (fun _ s10 _ => 2 - (intOf s10).toNat)
  case atStart => exact ⟨0, Nat.zero_le _, rfl, Lib.fresh_isBuilder 106 5 w, (Below.refl _ _).alloc (Nat.le_refl _) _⟩
  case round =>
    obtain ⟨k, hk, rfl, hB, hb⟩ := hrel
    have HBd := Lib.hid hB
    clear hB
    have hz1 := hb.size
    by_cases hlt : k < 2
    · have k1 : (k : Int) < 2 := by omega
      have k0 : (0 : Int) ≤ (k : Int) := by omega
      obtain ⟨x, hx, hT⟩ := pT_step k hlt
      have HX := Lib.hid hx
      have HT := Lib.hid hT
      clear hx hT
      have c0 := below_cell hb (Nat.le_refl _) (HC.out k hlt).1
      have c1 := below_cell hb (Nat.le_refl _) (HC.out k hlt).2.1
      have c2 := below_cell hb (Nat.le_refl _) (HC.out k hlt).2.2
      obtain ⟨wa, ha⟩ : ∃ wa, wa = (wr.alloc (Obj.cells #[Value.int IntKind.i64 k, Value.int IntKind.i64 1, Value.int IntKind.i64 k] 32)) := ⟨_, rfl⟩
      have hBa := Lib.hid (ha ▸ isB_alloc HBd.out (Obj.cells #[Value.int IntKind.i64 k, Value.int IntKind.i64 1, Value.int IntKind.i64 k] 32))
      have hba : Below w.heap.size w wa := by rw [ha]; exact hb.alloc hz1 _
      have HA := Lib.hid ha
      clear ha
      go_wp2_with fail
      rw [← HA.out]
      refine (line_small wa k 1 k x 49 x (by omega) (by decide) (by omega) HX.out dec1 HX.out).mono ?_
      rintro e w2 ⟨rfl, hw⟩; cases hw
      rename_i K1 K2 hK2
      refine hK2 _ _ ?_
      clear hK2
      go_wp2_with fail
      refine (writeString_any _ _ _ _ wa hBa.out (by rw [Lib.byteCells_length]; have := pT_len k; simp [ByteArray.size]; omega) hba.size).mono ?_
      rintro e w2 ⟨rfl, hB2, hb2⟩
      have hcells : Lib.byteCells (pT k) ++ Lib.strCells ((⟨#[x, 32, 49, 32, x]⟩ : ByteArray) ++ ⟨#[10]⟩) = Lib.byteCells (pT (k + 1)) := by
        rw [HT.out, Lib.strCells_eq]; simp [Lib.byteCells]
      rw [hcells] at hB2
      have hB3 := Lib.hid hB2
      have hb3 := hba.trans hb2
      clear hB2 hcells
      rename_i K1 K2 hK2
      refine hK2 _ _ ?_
      clear hK2
      go_wp2_with fail
      go_roundw
      case rel => exact ⟨k + 1, by omega, by go_num, Or.inr hB3.out, hb3⟩
      case measure => simp [intOf]; omega
    · have e : k = 2 := by omega
      have HE := Lib.hid e
      clear e
      go_wp2_with fail
      refine (Tryd.Builder_String _ _ _ wr HBd.out (by rw [HE.out]; decide)).mono ?_
      rintro e w2 ⟨rfl, hb2⟩
      rename_i K1 K2 hK2
      refine hK2 _ _ ?_
      clear hK2
      go_wp2_with fail
      go_ret
      exact ⟨by rw [HE.out]; rfl, hb.trans hb2⟩
end Go.Proofs.YtfcoigcenheefaaDoor
