import Derived.Test.YtfcoigcenheefaaDoorPrint
set_option linter.unusedVariables false
set_option linter.unusedSimpArgs false
namespace Go.Proofs.YtfcoigcenheefaaDoor
open Go.RowKit
theorem rob_cell {w : World} {B g cap : Nat} {delay : Int} {m : Nat} (h : w.ownsRow B 32 3 (.slice (some ⟨g, 0, none⟩) m cap) m (robL delay m)) (k : Nat) (hk : k < m) :
    w.cell? ⟨g, k * 3, none⟩ = some (.int .i64 k) ∧ w.cell? ⟨g, k * 3 + 1, none⟩ = some (.int .i64 delay) ∧ w.cell? ⟨g, k * 3 + 2, none⟩ = some (.int .i64 k) := by
  have hl := robL_len delay m
  have get : ∀ j, j < 3 → (robL delay m)[k * 3 + j]? = (robC delay k)[j]? := by
    intro j hj
    clear h hl
    induction m with
    | zero => omega
    | succ m ih =>
      rw [robL_succ]
      have hl := robL_len delay m
      by_cases e : k < m
      · rw [List.getElem?_append_left (by omega)]; exact ih e
      · have : k = m := by omega
        subst this
        rw [List.getElem?_append_right (by omega), hl]
        congr 1; omega
  have c := fun j hj => h.cellAt (k * 3 + j) hj
  refine ⟨?_, ?_, ?_⟩
  · have := c 0 (by omega); rw [Nat.add_zero] at this; rw [this]; have := get 0 (by omega); rw [Nat.add_zero] at this; rw [this]; rfl
  · rw [c 1 (by omega), get 1 (by omega)]; rfl
  · rw [c 2 (by omega), get 2 (by omega)]; rfl
theorem robN_two : robN 2 = 2 := by decide
set_option maxRecDepth 100000 in
theorem salive_any (w : World) :
    Calls Tryd.prog 18 #[] w fun e w' => e = .returned (.bool true) ∧ Below w.heap.size w w' := by
  go_enter Tryd.func18, Tryd.ntmps18
  go_wp2_with fail
  refine (robin_any w 2 1).mono ?_
  rintro e w1 ⟨r, rfl, hown, hb⟩
  rw [robN_two] at hown
  obtain ⟨g, cap, rfl, q1, q2⟩ := hown.form (by omega)
  clear q1 q2
  have HC := Lib.hid (rob_cell hown)
  clear hown
  rename_i K1 K2 hK2
  refine hK2 _ _ ?_
  clear hK2
  go_wp2_with fail
  refine (print_two w1 g cap HC.out).mono ?_
  rintro e w2 ⟨rfl, hb2⟩
  have b2 := hb.trans (hb2.mono hb.size)
  rename_i K1 K2 hK2
  refine hK2 _ _ ?_
  clear hK2
  rw [show (Value.string ⟨(pT 2).toArray⟩) = .string ⟨#[48, 32, 49, 32, 48, 10, 49, 32, 49, 32, 49, 10]⟩ from rfl]
  go_wp2_with fail
  refine (words_any w2).mono ?_
  rintro e w3 ⟨rfl, hb3⟩
  have b3 := b2.trans (hb3.mono b2.size)
  rename_i K1 K2 hK2
  refine hK2 _ _ ?_
  clear hK2
  go_wp2_with fail
  go_ret
  exact ⟨rfl, b3⟩
theorem scriptRobins_any (w : World) (n delay : Int) :
    Calls Tryd.prog 4 #[.int .i64 n, .int .i64 delay] w fun e w' => e = .returned (.bool true) ∧ Below w.heap.size w w' := by
  by_cases hbig : 500 < n ∧ n ≤ 65536
  · obtain ⟨n1, n2⟩ := hbig
    go_enter Tryd.func4, Tryd.ntmps4
    go_wp2_with fail
    refine (salive_any _).mono ?_
    rintro e w1 ⟨rfl, hb⟩
    rename_i K1 K2 hK2
    refine hK2 _ _ ?_
    clear hK2
    go_wp2_with fail
    go_ret
    exact ⟨rfl, hb⟩
  · obtain ⟨M, hM⟩ : ∃ M, M = robN n := ⟨_, rfl⟩
    have hM1 : M ≤ 65536 := by rw [hM]; unfold robN; omega
    have hM2 : (M : Int) ≤ 65536 := by omega
    have hM0 : (0 : Int) ≤ (M : Int) := by omega
    have HM : Hid (min (max n 0) 65536 = (M : Int)) := by show _ = _; rw [hM]; unfold robN; omega
    have HR := Lib.hid hM
    have hs : n ≤ 500 ∨ (500 < n ∧ 65536 < n) := by omega
    clear hbig hM
    have HS := hs
    clear hs
    rcases HS with hs | ⟨hs1, hs2⟩
    all_goals (
      go_enter Tryd.func4, Tryd.ntmps4
      go_wp2_with fail
      try have hs' := Lib.hid hs
      try have hs1' := Lib.hid hs1
      try have hs2' := Lib.hid hs2
      refine (robin_any w n delay).mono ?_
      rintro e w1 ⟨r, rfl, hown, hb⟩
      rw [← HR.out] at hown
      obtain ⟨a, c, rfl⟩ := row_form hown
      have HO := Lib.hid hown
      clear hown
      first
        | (rename_i K1 K2 hK2; refine hK2 _ _ ?_; clear hK2)
        | (rename_i K1 K2 hK2 hx; refine hK2 _ _ ?_; clear hK2)
      have hm : min (max n 0) 65536 = (M : Int) := HM.out
      go_wp2_with fail
      clear hm
      go_loopw [6] (fun s6 wr => ∃ k : Nat, k ≤ M ∧ s6 = .int .i64 k ∧ Below w1.heap.size w1 wr) (fun s6 _ => M - (intOf s6).toNat)
      case atStart => exact ⟨0, Nat.zero_le _, rfl, Below.refl _ _⟩
      case round =>
        obtain ⟨k, hk, rfl, hbr⟩ := hrel
        by_cases hlt : k < M
        · have k1 : (k : Int) < (M : Int) := by omega
          have k0 : (0 : Int) ≤ (k : Int) := by omega
          have k2 : (k : Int) ≤ 65536 := by omega
          obtain ⟨g, c', h1, q1, q2⟩ := HO.out.form (by omega)
          clear q1 q2
          simp at h1
          obtain ⟨rfl, rfl⟩ := h1
          have c0 := below_cell hbr (Nat.le_refl _) (rob_cell HO.out k hlt).1
          have c1 := below_cell hbr (Nat.le_refl _) (rob_cell HO.out k hlt).2.1
          have c2 := below_cell hbr (Nat.le_refl _) (rob_cell HO.out k hlt).2.2
          go_wp2_with fail
          refine ⟨⟨k + 1, by omega, by go_num, hbr⟩, ?_⟩
          simp [intOf]; omega
        · have k1 : (M : Int) ≤ (k : Int) := by omega
          go_wp2_with fail
          refine (salive_any _).mono ?_
          rintro e w2 ⟨rfl, hb2⟩
          first
            | (rename_i K1 K2 hK2; refine hK2 _ _ ?_; clear hK2)
            | (rename_i K1 K2 hK2 hx; refine hK2 _ _ ?_; clear hK2)
          have b1 := hb.trans (hbr.mono hb.size)
          go_wp2_with fail
          go_ret
          exact ⟨rfl, b1.trans (hb2.mono b1.size)⟩)
end Go.Proofs.YtfcoigcenheefaaDoor
