/-
  container/heap's Push, Fix and Remove over the queue: which signals are there behind them; condition: at most 900 signals.
-/
import Derived.Test.YtfcoigcenheefaaSigE
set_option linter.unusedVariables false
set_option linter.unusedSimpArgs false
namespace Go.Proofs.Ytfcoigcenheefaa
open Go.RowKit
/-- A box whose places are right. -/
structure BoxI (w : World) (b : Nat) (sv : Value) (L : List (Int × Int)) (A : List Int) : Prop where
  box : Box w b sv L A
  inv : Inv L A
/-- What stays: all old blocks but the box's own, and its row's. -/
def Mine (b : Nat) (sv : Value) (q : Nat) : Prop := q = b ∨ sv.ownBlock = some q
set_option maxHeartbeats 1000000 in
theorem hpush_any {w : World} {b : Nat} {sg : Option Addr} {n cap : Nat} {L : List (Int × Int)} {A : List Int} (h : Box w b (.slice sg n cap) L A) (hI : Inv L A) (hl : L.length ≤ 900) (m : Nat) (due : Int) (hm2 : m < 64) (hno : A.getD m 0 = -1) :
    Calls Try.prog 19 #[.iface 56 (.pointer (some ⟨b, 0, none⟩)), .iface 58 (.agg #[.int .i64 m, .int .i64 due])] w fun e w' => e = .returned (.tuple #[]) ∧
      (∃ g' n' cap' L' A', Box w' b (.slice (some ⟨g', 0, none⟩) n' cap') L' A' ∧ Inv L' A' ∧ L'.length = L.length + 1 ∧ (∀ m' d, Has L' m' d ↔ Has L m' d ∨ (m' = m ∧ d = due)) ∧ (Value.ownBlock (.slice sg n cap) = some g' ∨ w.heap.size ≤ g')) ∧ Frm (Mine b (.slice sg n cap)) w w' := by
  have mP := m_Push b
  have mL := m_Len b
  go_enter Try.func19, Try.ntmps19
  go_wp2_with (go_at_call 43; refine (push_any h (by omega) m due hm2).mono ?_; rintro e w1 ⟨rfl, ⟨g', cap', hB, hat⟩, hF⟩)
  have hIp := hI.push hm2 hno due
  have hlen : (L ++ [((m : Int), due)]).length = L.length + 1 := by simp
  have hlt : L.length < (L ++ [((m : Int), due)]).length := by omega
  have hl0 : (L.length : Int) ≤ 900 := by omega
  go_wp2_with (first
    | (go_at_call 22; refine (len_any hB).mono ?_; rintro e w' ⟨rfl, hw⟩; cases hw)
    | (go_at_call 23; refine (up_any hB hIp L.length hlt).mono ?_; rintro e w2 ⟨rfl, hK⟩))
  go_end0
  obtain ⟨⟨L', A', hB', hI', hS, hq⟩, hF2⟩ := hK
  refine ⟨rfl, ⟨g', _, cap', L', A', hB', hI', by rw [hS.1, hlen], fun m' d => (hS.2 m' d).trans has_push, hat⟩, ?_⟩
  refine (hF.mono' (fun q e => e)).trans hF2 (fun q hq' e => ?_)
  rcases e with e | e
  · exact .inl e
  · subst e
    rcases hat with e | e
    · exact .inr e
    · omega

set_option maxHeartbeats 1000000 in
theorem hfix_any {w : World} {b g n cap : Nat} {L : List (Int × Int)} {A : List Int} (h : Box w b (.slice (some ⟨g, 0, none⟩) n cap) L A) (hI : Inv L A) (i : Nat) (hi : i < L.length) (hl : L.length ≤ 900) :
    Calls Try.prog 20 #[.iface 56 (.pointer (some ⟨b, 0, none⟩)), .int .i64 i] w fun e w' => e = .returned (.tuple #[]) ∧ Kept w b g n cap L w' (fun _ => False) := by
  obtain ⟨hn, _, _⟩ := row_len h.own
  subst hn
  have mL := m_Len b
  have hll : L.length ≤ L.length := Nat.le_refl _
  go_enter Try.func20, Try.ntmps20
  go_wp2_with (first
    | (go_at_call 22; refine (len_any h).mono ?_; rintro e w' ⟨rfl, hw⟩; cases hw)
    | (go_at_call 24; refine (down_any h hI i L.length (by omega) hll (by omega)).mono ?_; rintro e w2 ⟨⟨t, rfl⟩, hK⟩))
  all_goals obtain ⟨⟨L', A', hB', hI', hS, hq⟩, hF2⟩ := hK
  · refine (up_any hB' hI' i (by rw [hS.1]; exact hi)).mono ?_
    rintro e w3 ⟨rfl, ⟨L3, A3, hB3, hI3, hS3, hq3⟩, hF3⟩
    go_wp2_with fail
    go_end0
    exact ⟨rfl, ⟨L3, A3, hB3, hI3, hS.trans hS3, fun _ e => e.elim⟩, hF2.trans hF3 (fun _ _ e => e)⟩
  · go_end0
    exact ⟨rfl, ⟨L', A', hB', hI', hS, fun _ e => e.elim⟩, hF2⟩
set_option maxHeartbeats 2000000 in
theorem hremove_any {w : World} {b g n cap : Nat} {L : List (Int × Int)} {A : List Int} (h : Box w b (.slice (some ⟨g, 0, none⟩) n cap) L A) (hI : Inv L A) (i m : Nat) (hi : i < L.length) (hl : L.length ≤ 900) (hm : (L.getD i (0, 0)).1 = m) (hm2 : m < 64) :
    Calls Try.prog 21 #[.iface 56 (.pointer (some ⟨b, 0, none⟩)), .int .i64 i] w fun e w' => (∃ v, e = .returned v) ∧
      (∃ n' L' A', Box w' b (.slice (some ⟨g, 0, none⟩) n' cap) L' A' ∧ A'.getD m 0 = -1) ∧ Frm (fun q => q = b ∨ q = g) w w' := by
  obtain ⟨hn, _, _⟩ := row_len h.own
  subst hn
  have mL := m_Len b
  have mS := m_Swap b
  have mP := m_Pop b
  obtain ⟨l, hll⟩ : ∃ l, L.length = l + 1 := ⟨L.length - 1, by omega⟩
  have HLL := Lib.hid hll
  have hl9 : (l : Int) ≤ 900 := by omega
  have e1 : ((L.length : Int)) = (l : Int) + 1 := by omega
  by_cases hil : i = l
  · have hb1 : ((l : Int) != (i : Int)) = false := by simp [hil]
    have HIL := Lib.hid hil
    clear hil hll
    go_enter Try.func21, Try.ntmps21
    go_wp2_with (first
      | (go_at_call 22; refine (len_any h).mono ?_; rintro e w' ⟨rfl, hw⟩; cases hw)
      | (go_at_call 42; refine (pop_any h (by have := HLL.out; omega) m (by have := HLL.out; have := HIL.out; rw [show L.length - 1 = i by omega]; exact hm) hm2).mono ?_; rintro e w3 ⟨⟨v, rfl⟩, hB, hF⟩))
    go_ret
    refine ⟨⟨_, rfl⟩, ⟨_, _, _, hB, ?_⟩, hF.mono' (fun q e => .inl e)⟩
    rw [getD_set]; simp [hI.len, hm2]
  · have hb1 : ((l : Int) != (i : Int)) = true := by simp; omega
    obtain ⟨ml, q1, q2, q3⟩ := hI.fwd l (by omega)
    have hil' : i ≠ l := hil
    clear hil hll
    go_enter Try.func21, Try.ntmps21
    go_wp2_with (first
      | (go_at_call 22; refine (len_any h).mono ?_; rintro e w' ⟨rfl, hw⟩; cases hw))
    have hil0 : i < L.length := hi
    have hll0 : l < L.length := by have := HLL.out; omega
    have hil3 : i < l := by have := HLL.out; omega
    refine (swap_any h i l m ml hil0 hll0 hil' hm q2 hm2 q1).mono ?_
    rintro e w1 ⟨rfl, hB1, hF1⟩
    have hI1 := hI.swap hil0 hll0 hil' hm q2 hm2 q1
    have hS1 := same_swap L i l hil0 hll0
    have hg1 : (swapL L i l).getD l (0, 0) = L.getD i (0, 0) := by rw [swapL_get L i l l hil0 hll0, if_pos rfl]
    have HG := Lib.hid hg1
    have hlen1 : Hid ((swapL L i l).length = l + 1) := by show _ = _; rw [swapL_len]; exact HLL.out
    clear hg1 hb1 e1 q3
    have FIN : Hid (∀ (w2 : World) (L2 : List (Int × Int)) (A2 : List Int), Box w2 b (.slice (some ⟨g, 0, none⟩) L.length cap) L2 A2 → Inv L2 A2 → Same (swapL L i l) L2 → L2.getD l (0, 0) = (swapL L i l).getD l (0, 0) →
        Calls Try.prog 42 #[.pointer (some ⟨b, 0, none⟩)] w2 fun e w' => (∃ v, e = .returned v) ∧ (∃ n' L' A', Box w' b (.slice (some ⟨g, 0, none⟩) n' cap) L' A' ∧ A'.getD m 0 = -1) ∧ Frm (fun q => q = b ∨ q = g) w2 w') := by
      intro w2 L2 A2 hB2 hI2 hS2 hk2
      have hl2 : L2.length = l + 1 := by rw [hS2.1]; exact hlen1
      refine (pop_any hB2 (by omega) m (by rw [show L2.length - 1 = l by omega, hk2, HG.out]; exact hm) hm2).mono ?_
      rintro e w3 ⟨hv, hB, hF⟩
      exact ⟨hv, ⟨_, _, _, hB, by rw [getD_set]; simp [hI2.len, hm2]⟩, hF.mono' (fun q e => .inl e)⟩
    have hA1 : i ≤ (swapL L i l).length := by rw [swapL_len]; omega
    have hA2 : l ≤ (swapL L i l).length := by rw [swapL_len]; omega
    have hA3 : (swapL L i l).length ≤ 1000 := by rw [swapL_len]; omega
    go_wp2_with (go_at_call 24; refine (down_any hB1 hI1 i l hA1 hA2 hA3).mono ?_; rintro e w2 ⟨⟨t, rfl⟩, hK⟩)
    all_goals obtain ⟨⟨L2, A2, hB2, hI2, hS2, hq2⟩, hF2⟩ := hK
    · have hi2 : i < L2.length := by rw [show L2.length = l + 1 from hS2.1.trans hlen1]; omega
      refine (up_any hB2 hI2 i hi2).mono ?_
      rintro e w3 ⟨rfl, ⟨L3, A3, hB3, hI3, hS3, hq3⟩, hF3⟩
      go_wp2_with fail
      refine (FIN.out _ _ _ hB3 hI3 (hS2.trans hS3) ?_).mono ?_
      · exact (hq3 l hil3).trans (hq2 l (Nat.le_refl _))
      rintro e w4 ⟨⟨v, rfl⟩, hout, hF4⟩
      go_wp2_with fail
      go_ret
      exact ⟨⟨_, rfl⟩, hout, ((hF1.trans hF2 (fun _ _ e => e)).trans hF3 (fun _ _ e => e)).trans hF4 (fun _ _ e => e)⟩
    · refine (FIN.out _ _ _ hB2 hI2 hS2 (hq2 l (Nat.le_refl _))).mono ?_
      rintro e w4 ⟨⟨v, rfl⟩, hout, hF4⟩
      go_wp2_with fail
      go_ret
      exact ⟨⟨_, rfl⟩, hout, (hF1.trans hF2 (fun _ _ e => e)).trans hF4 (fun _ _ e => e)⟩
end Go.Proofs.Ytfcoigcenheefaa
