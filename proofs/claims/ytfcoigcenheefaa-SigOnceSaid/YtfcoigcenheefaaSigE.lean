/-
  container/heap's up and down over the queue: a run of swaps; condition: the place is there.
-/
import Derived.Test.YtfcoigcenheefaaSigC
import Derived.Test.YtfcoigcenheefaaSigD
import Derived.Test.YtfcoigcenheefaaSigP
set_option linter.unusedVariables false
set_option linter.unusedSimpArgs false
namespace Go.Proofs.Ytfcoigcenheefaa
open Go.RowKit
theorem m_Less (b : Nat) (w : World) : Sem.run Try.prog (method 190 56 (.pointer (some ⟨b, 0, none⟩)) "Less") w = .ok (41, .pointer (some ⟨b, 0, none⟩)) w := by kernel_rfl
theorem m_Swap (b : Nat) (w : World) : Sem.run Try.prog (method 190 56 (.pointer (some ⟨b, 0, none⟩)) "Swap") w = .ok (44, .pointer (some ⟨b, 0, none⟩)) w := by kernel_rfl
theorem m_Len (b : Nat) (w : World) : Sem.run Try.prog (method 190 56 (.pointer (some ⟨b, 0, none⟩)) "Len") w = .ok (22, .pointer (some ⟨b, 0, none⟩)) w := by kernel_rfl
theorem m_Push (b : Nat) (w : World) : Sem.run Try.prog (method 190 56 (.pointer (some ⟨b, 0, none⟩)) "Push") w = .ok (43, .pointer (some ⟨b, 0, none⟩)) w := by kernel_rfl
theorem m_Pop (b : Nat) (w : World) : Sem.run Try.prog (method 190 56 (.pointer (some ⟨b, 0, none⟩)) "Pop") w = .ok (42, .pointer (some ⟨b, 0, none⟩)) w := by kernel_rfl
theorem Box.frm {w w' : World} {b : Nat} {sv : Value} {L : List (Int × Int)} {A : List Int} (h : Box w b sv L A) (hf : Frm (fun _ => False) w w') : Box w' b sv L A :=
  ⟨(hf.block b (lt_of_block h.blk) (fun e => e)).trans h.blk, h.alen, row_frm h.own hf (fun _ _ e => e)⟩
theorem tdiv2 (k : Nat) : ((k : Int) - 1).tdiv 2 = (((k - 1) / 2 : Nat) : Int) := by
  cases k with
  | zero => decide
  | succ k =>
    rw [show (((k + 1 : Nat) : Int) - 1) = (k : Int) by omega, Int.tdiv_eq_ediv_of_nonneg (by omega)]
    simp
/-- What a run of swaps leaves. -/
structure Kept (w : World) (b g n cap : Nat) (L : List (Int × Int)) (w' : World) (keep : Nat → Prop) : Prop where
  out : ∃ L' A', Box w' b (.slice (some ⟨g, 0, none⟩) n cap) L' A' ∧ Inv L' A' ∧ Same L L' ∧ (∀ q, keep q → L'.getD q (0, 0) = L.getD q (0, 0))
  frm : Frm (fun q => q = b ∨ q = g) w w'

set_option maxHeartbeats 1000000 in
theorem up_any {w : World} {b g n cap : Nat} {L : List (Int × Int)} {A : List Int} (h : Box w b (.slice (some ⟨g, 0, none⟩) n cap) L A) (hI : Inv L A) (j : Nat) (hj : j < L.length) :
    Calls Try.prog 23 #[.iface 56 (.pointer (some ⟨b, 0, none⟩)), .int .i64 j] w fun e w' => e = .returned (.tuple #[]) ∧ Kept w b g n cap L w' (fun q => j < q) := by
  obtain ⟨hl1, hl2, hl3⟩ := row_len h.own
  unfold maxLen at hl3
  have hj2 : j ≤ 9223372036854775807 := by omega
  clear hl1 hl2 hl3
  have mL := m_Less b
  have mS := m_Swap b
  go_enter Try.func23, Try.ntmps23
  go_wp2_with fail
  go_loopw [1] (fun s1 wr => ∃ k : Nat, s1 = .int .i64 k ∧ k ≤ j ∧ Kept w b g n cap L wr (fun q => j < q))
    (fun s1 _ => (intOf s1).toNat)
  case atStart => exact ⟨j, rfl, Nat.le_refl _, ⟨L, A, h, hI, Same.refl _, fun _ _ => rfl⟩, Frm.refl _ _⟩
  case round =>
    obtain ⟨k, rfl, hkj, ⟨L', A', hB, hI', hS, hq⟩, hF⟩ := hrel
    have hk1 : (k : Int) ≤ 9223372036854775807 := by omega
    have hp := tdiv2 k
    by_cases h0 : k = 0
    · subst h0
      have hp0 : ((((0 : Nat) - 1) / 2 : Nat) : Int) = ((0 : Nat) : Int) := rfl
      go_wp2_with fail
      go_end0
      exact ⟨rfl, ⟨L', A', hB, hI', hS, hq⟩, hF⟩
    · obtain ⟨p, hpp⟩ : ∃ p, p = (k - 1) / 2 := ⟨_, rfl⟩
      rw [← hpp] at hp
      have hpk : p < k := by omega
      have hpb : ((p : Int) == (k : Int)) = false := by simp; omega
      clear hpp h0
      have hSl := hS.1
      obtain ⟨mp, q1, q2, q3⟩ := hI'.fwd p (by omega)
      obtain ⟨mk, q4, q5, q6⟩ := hI'.fwd k (by omega)
      have HS := Lib.hid hSl
      have HQ := Lib.hid q3
      clear hSl
      have hkl : k < L'.length := by have := HS.out; omega
      have hpl : p < L'.length := by omega
      go_wp2_with (go_at_call 41; refine (less_any hB k p hkl hpl).mono ?_; rintro e w1 ⟨⟨t, rfl⟩, hF1⟩)
      · go_end0
        exact ⟨rfl, ⟨L', A', hB.frm hF1, hI', hS, hq⟩, hF.trans hF1 (fun _ _ e => e.elim)⟩
      · refine (swap_any (hB.frm hF1) p k mp mk hpl hkl (by omega) q2 q5 q1 q4).mono ?_
        rintro e w2 ⟨rfl, hB2, hF2⟩
        have hI2 := hI'.swap hpl hkl (show p ≠ k by omega) q2 q5 q1 q4
        have hS2 := hS.trans (same_swap L' p k hpl hkl)
        have hq2 : Hid (∀ q, j < q → (swapL L' p k).getD q (0, 0) = L.getD q (0, 0)) := fun q hjq => by
          rw [swapL_get L' p k q hpl hkl, if_neg (by omega), if_neg (by omega)]; exact hq q hjq
        have hF3 := (hF.trans hF1 (fun _ _ e => e.elim)).trans hF2 (fun _ _ e => e)
        go_wp2_with fail
        go_roundw
        case rel => exact ⟨p, rfl, by omega, ⟨_, _, hB2, hI2, hS2, hq2.out⟩, hF3⟩
        case measure => simp [intOf]; omega

set_option maxHeartbeats 1000000 in
theorem down_any {w : World} {b g n cap : Nat} {L : List (Int × Int)} {A : List Int} (h : Box w b (.slice (some ⟨g, 0, none⟩) n cap) L A) (hI : Inv L A) (i0 nn : Nat) (hi : i0 ≤ L.length) (hn : nn ≤ L.length) (hl : L.length ≤ 1000) :
    Calls Try.prog 24 #[.iface 56 (.pointer (some ⟨b, 0, none⟩)), .int .i64 i0, .int .i64 nn] w fun e w' => (∃ t, e = .returned (.bool t)) ∧ Kept w b g n cap L w' (fun q => nn ≤ q) := by
  have hi2 : i0 ≤ 1000 := by omega
  have hn2 : nn ≤ 1000 := by omega
  have mL := m_Less b
  have mS := m_Swap b
  go_enter Try.func24, Try.ntmps24
  go_wp2_with fail
  go_loopw [7] (fun s7 wr => ∃ k : Nat, s7 = .int .i64 k ∧ k ≤ 1000 ∧ Kept w b g n cap L wr (fun q => nn ≤ q))
    (fun s7 _ => 1000 - (intOf s7).toNat)
  case atStart => exact ⟨i0, rfl, hi2, ⟨L, A, h, hI, Same.refl _, fun _ _ => rfl⟩, Frm.refl _ _⟩
  case round =>
    obtain ⟨k, rfl, hkj, ⟨L', A', hB, hI', hS, hq⟩, hF⟩ := hrel
    have hk0 : (0 : Int) ≤ (k : Int) := by omega
    have hk1 : (k : Int) ≤ 1000 := by omega
    by_cases h1 : nn ≤ 2 * k + 1
    · have hc : (nn : Int) ≤ 2 * (k : Int) + 1 := by omega
      go_wp2_with fail
      go_ret
      exact ⟨⟨_, rfl⟩, ⟨L', A', hB, hI', hS, hq⟩, hF⟩
    · have hc : 2 * (k : Int) + 1 < (nn : Int) := by omega
      have HS := Lib.hid hS.1
      have hll : Hid (nn ≤ L'.length) := by have := HS.out; show nn ≤ _; omega
      by_cases h2 : 2 * k + 1 + 1 < nn
      · have hc2 : 2 * (k : Int) + 1 + 1 < (nn : Int) := by omega
        go_upto_if 33 with (go_at_call 41; refine (less_any hB (2 * k + 1 + 1) (2 * k + 1) (by have := hll.out; omega) (by have := hll.out; omega)).mono ?_; rintro e w1 ⟨⟨t, rfl⟩, hF1⟩)
        go_cut [9] (fun s9 wc => ∃ jj : Nat, s9 = .int .i64 jj ∧ k < jj ∧ jj < nn ∧ Frm (fun _ => False) wr wc)
        case first =>
          go_wp2_with fail
          · go_meet
            case rel => exact ⟨2 * k + 1 + 1, by go_num, by omega, by omega, hF1⟩
          · go_meet
            case rel => exact ⟨2 * k + 1, by go_num, by omega, by omega, hF1⟩
        case rest =>
          obtain ⟨jj, rfl, hj1, hj2, hF1⟩ := hcut
          have hB1 := hB.frm hF1
          have hjl : jj < L'.length := by have := hll.out; omega
          have hkl : k < L'.length := by omega
          obtain ⟨mp, q1, q2, q3⟩ := hI'.fwd jj hjl
          obtain ⟨mk, q4, q5, q6⟩ := hI'.fwd k hkl
          have HQ3 := Lib.hid q3
          have HQ6 := Lib.hid q6
          clear q3 q6 hc
          go_wp2_with (go_at_call 41; refine (less_any hB1 jj k hjl hkl).mono ?_; rintro e w2 ⟨⟨t2, rfl⟩, hF2⟩)
          · go_ret
            exact ⟨⟨_, rfl⟩, ⟨L', A', hB1.frm hF2, hI', hS, hq⟩, (hF.trans hF1 (fun _ _ e => e.elim)).trans hF2 (fun _ _ e => e.elim)⟩
          · refine (swap_any (hB1.frm hF2) k jj mk mp hkl hjl (by omega) q5 q2 q4 q1).mono ?_
            rintro e w3 ⟨rfl, hB3, hF3⟩
            have hI3 := hI'.swap hkl hjl (show k ≠ jj by omega) q5 q2 q4 q1
            have hS3 := hS.trans (same_swap L' k jj hkl hjl)
            have hq3 : Hid (∀ q, nn ≤ q → (swapL L' k jj).getD q (0, 0) = L.getD q (0, 0)) := fun q hjq => by
              rw [swapL_get L' k jj q hkl hjl, if_neg (by omega), if_neg (by omega)]; exact hq q hjq
            have hF4 := ((hF.trans hF1 (fun _ _ e => e.elim)).trans hF2 (fun _ _ e => e.elim)).trans hF3 (fun _ _ e => e)
            go_wp2_with fail
            go_roundw
            case rel => exact ⟨jj, rfl, by omega, ⟨_, _, hB3, hI3, hS3, hq3.out⟩, hF4⟩
            case measure => simp [intOf]; omega
      · have hc2 : (nn : Int) ≤ 2 * (k : Int) + 1 + 1 := by omega
        go_upto_if 33 with fail
        go_cut [9] (fun s9 wc => ∃ jj : Nat, s9 = .int .i64 jj ∧ k < jj ∧ jj < nn ∧ Frm (fun _ => False) wr wc)
        case first =>
          go_wp2_with fail
          go_meet
          case rel => exact ⟨2 * k + 1, by go_num, by omega, by omega, Frm.refl _ _⟩
        case rest =>
          obtain ⟨jj, rfl, hj1, hj2, hF1⟩ := hcut
          have hB1 := hB.frm hF1
          have hjl : jj < L'.length := by have := hll.out; omega
          have hkl : k < L'.length := by omega
          obtain ⟨mp, q1, q2, q3⟩ := hI'.fwd jj hjl
          obtain ⟨mk, q4, q5, q6⟩ := hI'.fwd k hkl
          have HQ3 := Lib.hid q3
          have HQ6 := Lib.hid q6
          clear q3 q6 hc
          go_wp2_with (go_at_call 41; refine (less_any hB1 jj k hjl hkl).mono ?_; rintro e w2 ⟨⟨t2, rfl⟩, hF2⟩)
          · go_ret
            exact ⟨⟨_, rfl⟩, ⟨L', A', hB1.frm hF2, hI', hS, hq⟩, (hF.trans hF1 (fun _ _ e => e.elim)).trans hF2 (fun _ _ e => e.elim)⟩
          · refine (swap_any (hB1.frm hF2) k jj mk mp hkl hjl (by omega) q5 q2 q4 q1).mono ?_
            rintro e w3 ⟨rfl, hB3, hF3⟩
            have hI3 := hI'.swap hkl hjl (show k ≠ jj by omega) q5 q2 q4 q1
            have hS3 := hS.trans (same_swap L' k jj hkl hjl)
            have hq3 : Hid (∀ q, nn ≤ q → (swapL L' k jj).getD q (0, 0) = L.getD q (0, 0)) := fun q hjq => by
              rw [swapL_get L' k jj q hkl hjl, if_neg (by omega), if_neg (by omega)]; exact hq q hjq
            have hF4 := ((hF.trans hF1 (fun _ _ e => e.elim)).trans hF2 (fun _ _ e => e.elim)).trans hF3 (fun _ _ e => e)
            go_wp2_with fail
            go_roundw
            case rel => exact ⟨jj, rfl, by omega, ⟨_, _, hB3, hI3, hS3, hq3.out⟩, hF4⟩
            case measure => simp [intOf]; omega
end Go.Proofs.Ytfcoigcenheefaa
