/-
  The walk of escapementlaw21.SigOnce: it returns true and no old memory turns; condition: the acts can be read, due is an int64.
-/
import Derived.Test.YtfcoigcenheefaaSigG
set_option linter.unusedVariables false
set_option linter.unusedSimpArgs false
namespace Go.Proofs.Ytfcoigcenheefaa
open Go.RowKit
theorem send_any {B : Nat} {w : World} {b : Nat} {sv : Value} {L : List (Int × Int)} {A : List Int} (h : BX B w b sv L A) (m due : Int) (hl : L.length ≤ 900) :
    Calls Try.prog 12 #[.pointer (some ⟨b, 0, none⟩), .int .i64 m, .int .i64 due] w fun e w' => (∃ t, e = .returned (.bool t)) ∧
      (∃ sv' L' A', BX B w' b sv' L' A' ∧ L'.length ≤ L.length + 1 ∧ ∀ (m' d : Int), m' ≠ m → (Has L' m' d ↔ Has L m' d)) ∧ Below B w w' := by
  by_cases hm : m < 0 ∨ 64 ≤ m
  · refine (send_out m due hm).mono ?_
    rintro e w' ⟨he, hw⟩
    subst hw
    exact ⟨⟨_, he⟩, ⟨sv, L, A, h, by omega, fun _ _ _ => Iff.rfl⟩, Below.refl _ _⟩
  · obtain ⟨k, rfl⟩ : ∃ k : Nat, m = k := ⟨m.toNat, by omega⟩
    by_cases hh : ∃ d, Has L (k : Int) d
    · obtain ⟨d, hd⟩ := hh
      by_cases hle : d ≤ due
      · refine (send_keep h k due d (by omega) hd hle hl).mono ?_
        rintro e w' ⟨he, hw⟩
        subst hw
        exact ⟨⟨_, he⟩, ⟨sv, L, A, h, by omega, fun _ _ _ => Iff.rfl⟩, Below.refl _ _⟩
      · refine (send_low h k due d (by omega) hd (by omega) hl).mono ?_
        rintro e w' ⟨he, ⟨sv', L', A', h1, h2, _, h4⟩, hb⟩
        exact ⟨⟨_, he⟩, ⟨sv', L', A', h1, by omega, h4⟩, hb⟩
    · refine (send_new h k due (by omega) (fun d hd => hh ⟨d, hd⟩) hl).mono ?_
      rintro e w' ⟨he, ⟨sv', L', A', h1, h2, h4⟩, hb⟩
      refine ⟨⟨_, he⟩, ⟨sv', L', A', h1, by omega, fun m' d hm' => ?_⟩, hb⟩
      rw [h4]
      exact ⟨fun h => h.resolve_right (fun e => hm' e.1), .inl⟩
/-- An act. -/
def ActAt (w : World) (b o : Nat) : Prop := ∃ (M at_ : Int), w.cell? ⟨b, o + 1, none⟩ = some (.int .i64 M) ∧ w.cell? ⟨b, o + 2, none⟩ = some (.int .i64 at_)
set_option maxRecDepth 100000 in
set_option maxHeartbeats 2000000 in
theorem sigOnce_any (w : World) (m due : Int) (pa : Option Addr) (b o n cap : Nat) (hn2 : n ≤ 9223372036854775807) (hpa : 0 < n → pa = some ⟨b, o, none⟩) (hl : ∀ i, i < n → ActAt w b (o + i * 3)) (hd1 : -9223372036854775808 ≤ due) (hd2 : due ≤ 9223372036854775807) :
    Calls Try.prog 4 #[.int .i64 m, .int .i64 due, .slice pa n cap] w fun e w' => e = .returned (.bool true) ∧ Below w.heap.size w w' := by
  have HL := Lib.hid hl
  have HPA := Lib.hid hpa
  clear hl hpa
  by_cases hlt : n ≤ 60 ∧ 0 ≤ m ∧ m < 64 ∧ due ≠ -9223372036854775808
  · obtain ⟨h1, h2, h3, h4⟩ := hlt
    obtain ⟨k, rfl⟩ : ∃ k : Nat, m = k := ⟨m.toNat, by omega⟩
    have hk : k < 64 := by omega
    have hdue : (due == -9223372036854775808) = false := by simpa using h4
    have hdue2 : -9223372036854775808 ≤ due - 1 := by omega
    clear h4
    go_enter Try.func4, Try.ntmps4
    go_wp2_with (go_at_call 11; refine (bnew_any _).mono ?_; rintro e w1 ⟨rfl, hX, hb⟩)
    go_loopw [8] (fun s8 wr => ∃ i : Nat, i ≤ n ∧ s8 = .int .i64 i ∧ ∃ sv L A, BX w.heap.size wr w.heap.size sv L A ∧ L.length ≤ i ∧ Hid (∀ d, ¬ Has L (k : Int) d) ∧ Below w.heap.size w wr) (fun s8 _ => n - (intOf s8).toNat)
    case atStart => exact ⟨0, Nat.zero_le _, rfl, _, _, _, hX, by simp, (fun d hd => by obtain ⟨i, hi, _⟩ := hd; simp at hi), hb⟩
    case round =>
      obtain ⟨i, hi, rfl, sv, L, A, hB, hLi, hno, hbl⟩ := hrel
      by_cases hin : i < n
      · obtain rfl := HPA.out (by omega)
        obtain ⟨M, at_, c1, c2⟩ := HL.out i hin
        have hbB : b < w.heap.size := block_lt_of_cell c1
        replace c1 := (hbl.cell (p := ⟨b, o + i * 3 + 1, none⟩) hbB).trans c1
        replace c2 := (hbl.cell (p := ⟨b, o + i * 3 + 2, none⟩) hbB).trans c2
        have hin1 : (i : Int) < (n : Int) := by omega
        have hl9 : L.length ≤ 900 := by omega
        by_cases hM : M = k
        · have hMb : (M != (k : Int)) = false := by simpa using hM
          clear hM
          go_wp2_with fail
          go_roundw
          case rel => exact ⟨i + 1, by omega, by go_num, sv, L, A, hB, by omega, hno, hbl⟩
          case measure => simp [intOf]; omega
        · have hMb : (M != (k : Int)) = true := by simpa using hM
          have hB' := hB.drewN 1
          go_wp2_with fail
          go_still_tail 11, (by kernel_rfl)
          change wpList _ _ _ _ _ (World.drew _)
          go_wp2_with (go_at_call 12; refine (send_any (w := wr.drew) hB' _ _ hl9).mono ?_; rintro e w1 ⟨⟨t, rfl⟩, ⟨sv', L', A', hB2, hl2, hH2⟩, hb2⟩)
          have hbl2 : Below w.heap.size w w1 := hbl.trans ⟨hb2.os, hb2.tape, hb2.output, hb2.size, hb2.block⟩
          go_roundw
          case rel => exact ⟨i + 1, by omega, by go_num, sv', L', A', hB2, by omega, (fun d hd => hno.out d ((hH2 _ _ (fun e => hM e.symm)).1 hd)), hbl2⟩
          case measure => simp [intOf]; omega
      · have hl9 : L.length ≤ 900 := by omega
        go_wp2_with fail
        refine (send_new hB k due hk hno.out hl9).mono ?_
        rintro e w2 ⟨rfl, ⟨sv2, L2, A2, hX2, hl2, hH2⟩, hb2⟩
        have hh2 : Has L2 ((k : Nat) : Int) due := (hH2 _ _).2 (.inr ⟨rfl, rfl⟩)
        have hl29 : L2.length ≤ 900 := by omega
        go_wp2_with fail
        refine (send_keep hX2 k due due hk hh2 (by omega) hl29).mono ?_
        rintro e w' ⟨rfl, hw⟩
        cases hw
        go_wp2_with fail
        refine (due_early hX2 k (due - 1) due hk hh2 (by omega) hl29).mono ?_
        rintro e w' ⟨rfl, hw⟩
        cases hw
        go_wp2_with fail
        refine (due_now hX2 k due due hk hh2 (by omega) hl29).mono ?_
        rintro e w3 ⟨rfl, ⟨sv3, L3, A3, hX3, hA3⟩, hb3⟩
        go_wp2_with fail
        refine (due_none hX3 k due hk hA3).mono ?_
        rintro e w' ⟨rfl, hw⟩
        cases hw
        go_wp2_with (go_at_call 10; refine (salive_any _).mono ?_; rintro e w4 ⟨rfl, hb4⟩)
        go_ret
        have hz := (hbl.trans hb2).trans hb3
        exact ⟨rfl, hz.trans (hb4.mono hz.size)⟩
  · have hq : (due == -9223372036854775808) = true ∨ (due == -9223372036854775808) = false := by cases (due == -9223372036854775808) <;> simp
    have fin : n ≤ 60 → 0 ≤ m → m < 64 → (due == -9223372036854775808) = true := fun a b c => by
      rcases hq with h | h
      · exact h
      · exact absurd ⟨a, b, c, by simpa using h⟩ hlt
    by_cases h1 : n ≤ 60
    · by_cases h2 : 0 ≤ m
      · by_cases h3 : m < 64
        · have h4 := fin h1 h2 h3
          clear fin hq hlt
          go_enter Try.func4, Try.ntmps4
          go_wp2_with (go_at_call 10; refine (salive_any _).mono ?_; rintro e w4 ⟨rfl, hb4⟩)
          go_ret
          exact ⟨rfl, hb4⟩
        · clear fin hq hlt
          go_enter Try.func4, Try.ntmps4
          go_wp2_with (go_at_call 10; refine (salive_any _).mono ?_; rintro e w4 ⟨rfl, hb4⟩)
          go_ret
          exact ⟨rfl, hb4⟩
      · clear fin hq hlt
        go_enter Try.func4, Try.ntmps4
        go_wp2_with (go_at_call 10; refine (salive_any _).mono ?_; rintro e w4 ⟨rfl, hb4⟩)
        go_ret
        exact ⟨rfl, hb4⟩
    · clear fin hq hlt
      go_enter Try.func4, Try.ntmps4
      go_wp2_with (go_at_call 10; refine (salive_any _).mono ?_; rintro e w4 ⟨rfl, hb4⟩)
      go_ret
      exact ⟨rfl, hb4⟩
end Go.Proofs.Ytfcoigcenheefaa
