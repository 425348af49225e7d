import Derived.Test.YtfcoigcenheefaaDoorAlive
set_option linter.unusedVariables false
set_option linter.unusedSimpArgs false
namespace Go.Proofs.YtfcoigcenheefaaDoor
open Go.RowKit
theorem chartHeads_any (w : World) (n width g : Int) (v : Value) (l : List Ev) (h : EvsAt w v l) (hl : l.length ≤ maxLen) :
    Calls Tryd.prog 3 #[.int .i64 n, .int .i64 width, v, .int .i64 g] w fun e w' => e = .returned (.bool true) ∧ Below w.heap.size w w' := by
  have hv := h
  obtain ⟨a, c, rfl, h2⟩ := h
  obtain ⟨len, hlen⟩ : ∃ len, len = l.length := ⟨_, rfl⟩
  have HN := Lib.hid hlen
  rw [← hlen] at hl ⊢
  have H2 := Lib.hid h2
  have HV : Hid (EvsAt w (.slice a len c) l) := Lib.hid (by rw [hlen]; exact hv)
  clear h2 hv hlen
  unfold maxLen at hl
  by_cases hbig : 100 < len
  · have hbi : (100 : Int) < len := by omega
    go_enter Tryd.func3, Tryd.ntmps3
    go_wp2_with fail
    refine (alive_any _).mono ?_
    rintro e w1 ⟨rfl, hb⟩
    rename_i K1 K2 hK2
    refine hK2 _ _ ?_
    clear hK2
    go_wp2_with fail
    go_ret
    exact ⟨rfl, hb⟩
  · have hbi : (len : Int) ≤ 100 := by omega
    go_enter Tryd.func3, Tryd.ntmps3
    go_wp2_with fail
    refine (head_all w n width).mono ?_
    rintro e w1 ⟨rfl, hb1⟩
    rename_i K1 K2 hK2
    refine hK2 _ _ ?_
    clear hK2
    go_wp2_with fail
    refine (rhead_any w1 n width).mono ?_
    rintro e w2 ⟨rfl, hb2⟩
    rename_i K1 K2 hK2
    refine hK2 _ _ ?_
    clear hK2
    have b2 := hb1.trans (hb2.mono hb1.size)
    go_wp2_with fail
    have hl2 : l.length ≤ 100 := by have := HN.out; omega
    have HL2 := Lib.hid hl2
    clear hl2
    have hle : (gapsTo (l.map Ev.g) g l.length).1.length ≤ 100 := Nat.le_trans (gapsTo_le _ _ _).1 HL2.out
    have HLE := Lib.hid hle
    clear hle
    refine (gaps_any w2 _ l g ((HV.out.below b2 (Nat.le_refl _))) (by have := HL2.out; omega)).mono ?_
    rintro e w3 ⟨r, rfl, hown, hb3⟩
    have b3 := b2.trans (hb3.mono b2.size)
    have HR1 := Lib.hid (ListAt.of_row (d := 0) hown)
    obtain ⟨ra, rc, rfl⟩ := row_form hown
    clear hown
    rename_i K1 K2 hK2
    refine hK2 _ _ ?_
    clear hK2
    go_wp2_with fail
    refine (rgaps_any w3 _ l g ((HV.out.below b3 (Nat.le_refl _))) (by have := HL2.out; omega)).mono ?_
    rintro e w4 ⟨r, rfl, hown, hb4⟩
    have b4 := b3.trans (hb4.mono b3.size)
    have HR2 := Lib.hid (ListAt.of_row (d := 0) hown)
    have HR1' := Lib.hid (HR1.out.below hb4 (Nat.le_refl _))
    obtain ⟨rb, rd, rfl⟩ := row_form hown
    clear hown HR1
    rename_i K1 K2 hK2
    refine hK2 _ _ ?_
    clear hK2
    go_wp2_with fail
    refine (same_any w4 _ _ _ _ HR1'.out HR2.out (by have := HLE.out; omega) (by have := HLE.out; omega)).mono ?_
    rintro e w5 ⟨rfl, nd, rfl⟩
    rename_i K1 K2 hK2
    refine hK2 _ _ ?_
    clear hK2
    simp only [decide_true]
    go_wp2_with fail
    refine (alive_any _).mono ?_
    rintro e w6 ⟨rfl, hb6⟩
    rename_i K1 K2 hK2
    refine hK2 _ _ ?_
    clear hK2
    go_wp2_with fail
    go_ret
    have b5 := b4.trans (below_drewN w.heap.size w4 nd)
    exact ⟨rfl, b5.trans (hb6.mono b5.size)⟩
end Go.Proofs.YtfcoigcenheefaaDoor
