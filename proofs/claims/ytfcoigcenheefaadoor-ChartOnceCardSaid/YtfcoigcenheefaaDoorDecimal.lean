import Derived.Test.YtfcoigcenheefaaDoorHead
import Derived.Lib.ItoaLen
set_option linter.unusedVariables false
set_option linter.unusedSimpArgs false
namespace Go.Proofs.YtfcoigcenheefaaDoor
open Go.RowKit
set_option maxRecDepth 100000 in
theorem tail_one (w : World) (n : Int) (h1 : -10 < n) (h2 : n ≤ 0) :
    Calls Tryd.prog 134 #[.int .i64 n] w fun e w' => e = .returned (.string ⟨#[UInt8.ofNat (48 + n.natAbs)]⟩) ∧ Below w.heap.size w w' := by
  have hcv := conv_one (w.alloc (.cells #[.int .u8 (UInt8.ofNat (48 + n.natAbs)).toNat] 5)) w.heap.size (UInt8.ofNat (48 + n.natAbs)) (by simp)
  have hv : ((UInt8.ofNat (48 + n.natAbs)).toNat : Int) = 48 - n := by simp; omega
  rw [hv] at hcv
  clear hv
  obtain ⟨c, hc⟩ : ∃ c, c = UInt8.ofNat (48 + n.natAbs) := ⟨_, rfl⟩
  rw [← hc] at hcv ⊢
  have HC := Lib.hid hcv
  clear hc hcv
  go_enter Tryd.func134, Tryd.ntmps134
  go_wp2_with fail
  rw [HC.out]
  go_wp2_with fail
  go_ret
  exact ⟨rfl, (Below.refl _ _).alloc (Nat.le_refl _) _⟩
theorem tdiv10 (u : Nat) : (-(u : Int)).tdiv 10 = -((u / 10 : Nat) : Int) := by
  rw [Int.neg_tdiv, Int.tdiv_eq_ediv_of_nonneg (by omega)]; simp
theorem tmod10 (u : Nat) : (-(u : Int)).tmod 10 = -((u % 10 : Nat) : Int) := by
  rw [Int.neg_tmod, Int.tmod_eq_emod_of_nonneg (by omega)]; simp
set_option maxRecDepth 100000 in
theorem tail_any : ∀ (k : Nat) (u : Nat), u < k → u ≤ 9223372036854775808 → ∀ (w : World),
    Calls Tryd.prog 134 #[.int .i64 (-(u : Int))] w fun e w' => e = .returned (.string ⟨(Lib.decDigits u).toArray⟩) ∧ Below w.heap.size w w'
  | 0, u, hu, _, w => by omega
  | k + 1, u, hu, hm, w => by
    by_cases h : u < 10
    · rw [Lib.decDigits_one h]
      have := tail_one w (-(u : Int)) (by omega) (by omega)
      simpa using this
    · have hd : Lib.decDigits u = Lib.decDigits (u / 10) ++ [UInt8.ofNat (48 + u % 10)] := by rw [Lib.decDigits, dif_neg h]
      have I1 := fun w => tail_any k (u / 10) (by omega) (by omega) w
      have I2 := fun w => tail_one w (-((u % 10 : Nat) : Int)) (by omega) (by omega)
      have HI1 := Lib.hid I1
      have HI2 := Lib.hid I2
      have HD := Lib.hid hd
      have hlen : (Lib.decDigits (u / 10)).length ≤ 100 := by rw [Lib.decDigits_length]; exact Nat.le_trans (Lib.nDigits_le20 _ (by omega)) (by decide)
      have HL := Lib.hid hlen
      clear I1 I2 hd hlen
      obtain ⟨n, hn⟩ : ∃ n : Int, n = -(u : Int) := ⟨_, rfl⟩
      have n1 : n ≤ -10 := by omega
      have n0 : -9223372036854775808 ≤ n := by omega
      have hq : n.tdiv 10 = -((u / 10 : Nat) : Int) := by rw [hn]; exact tdiv10 u
      have hr : n.tmod 10 = -((u % 10 : Nat) : Int) := by rw [hn]; exact tmod10 u
      have HQ := Lib.hid hq
      have HR := Lib.hid hr
      rw [← hn]
      clear hn hq hr hu hm h
      go_enter Tryd.func134, Tryd.ntmps134
      go_wp2_with fail
      rw [HQ.out]
      refine (HI1.out w).mono ?_
      rintro e w1 ⟨rfl, hb1⟩
      rename_i K1 K2 hK2
      refine hK2 _ _ ?_
      clear hK2
      go_wp2_with fail
      rw [HR.out]
      refine (HI2.out w1).mono ?_
      rintro e w2 ⟨rfl, hb2⟩
      rename_i K1 K2 hK2
      refine hK2 _ _ ?_
      clear hK2
      have b2 := hb1.trans (hb2.mono hb1.size)
      generalize hDD : Lib.decDigits (u / 10) = DD at *
      have hl3 : ¬ (9223372036854775807 < DD.length + 1) := by have := HL.out; omega
      go_wp2_with fail
      go_ret
      refine ⟨?_, b2⟩
      rw [HD.out]
      show Ending.returned (Value.string _) = Ending.returned (Value.string _)
      congr 2
      apply ByteArray.ext
      simp
      congr 1
theorem decimal_any (w : World) (n : Int) (h1 : -9223372036854775808 ≤ n) (h2 : n ≤ 9223372036854775807) :
    Calls Tryd.prog 71 #[.int .i64 n] w fun e w' => e = .returned (.string ⟨(Lib.itoa n).toArray⟩) ∧ Below w.heap.size w w' := by
  by_cases h : n < 0
  · have hT := tail_any (n.natAbs + 1) n.natAbs (by omega) (by omega) w
    rw [show -(n.natAbs : Int) = n by omega] at hT
    have hi : Lib.itoa n = 45 :: Lib.decDigits n.natAbs := by rw [Lib.itoa, if_pos h]
    have hlen : (Lib.decDigits n.natAbs).length ≤ 100 := by rw [Lib.decDigits_length]; exact Nat.le_trans (Lib.nDigits_le20 _ (by omega)) (by decide)
    have HT := Lib.hid hT
    have HI := Lib.hid hi
    have HL := Lib.hid hlen
    clear hT hi hlen
    go_enter Tryd.func71, Tryd.ntmps71
    go_wp2_with fail
    refine HT.out.mono ?_
    rintro e w1 ⟨rfl, hb1⟩
    rename_i K1 K2 hK2
    refine hK2 _ _ ?_
    clear hK2
    generalize Lib.decDigits n.natAbs = DD at *
    have hl3 : ¬ (9223372036854775807 < 1 + DD.length) := by have := HL.out; omega
    go_wp2_with fail
    go_ret
    refine ⟨?_, hb1⟩
    rw [HI.out]
    show Ending.returned (Value.string _) = Ending.returned (Value.string _)
    congr 2
  · have hT := tail_any (n.natAbs + 1) n.natAbs (by omega) (by omega) w
    have hi : Lib.itoa n = Lib.decDigits n.natAbs := by rw [Lib.itoa, if_neg h]; congr 1; omega
    have hn : -(n.natAbs : Int) = -n := by omega
    rw [hn] at hT
    have HT := Lib.hid hT
    have HI := Lib.hid hi
    clear hT hi hn
    go_enter Tryd.func71, Tryd.ntmps71
    go_wp2_with fail
    refine HT.out.mono ?_
    rintro e w1 ⟨rfl, hb1⟩
    rename_i K1 K2 hK2
    refine hK2 _ _ ?_
    clear hK2
    go_wp2_with fail
    go_ret
    exact ⟨by rw [HI.out]; rfl, hb1⟩
end Go.Proofs.YtfcoigcenheefaaDoor
