import Derived.Test.YtfcoigcenheefaaDoorGapA
set_option linter.unusedVariables false
set_option linter.unusedSimpArgs false
namespace Go.Proofs.YtfcoigcenheefaaDoor
open Go.RowKit
set_option maxHeartbeats 1000000 in
theorem gaps_any (w : World) (v : Value) (l : List Ev) (g : Int) (h : EvsAt w v l) (hl : l.length ≤ 100000) :
    Calls Tryd.prog 16 #[v, .int .i64 g] w fun e w' => ∃ r, e = .returned r ∧ w'.ownsRow w.heap.size 3 1 r (gapsTo (l.map Ev.g) g l.length).1.length ((gapsTo (l.map Ev.g) g l.length).1.map (Value.int .i64)) ∧ Below w.heap.size w w' := by
  obtain ⟨a, c, rfl, h2⟩ := h
  obtain ⟨n, hn⟩ : ∃ n, n = l.length := ⟨_, rfl⟩
  rw [← hn] at h2 hl ⊢
  have HN := Lib.hid hn
  have H2 := Lib.hid h2
  clear hn h2
  go_enter Tryd.func16, Tryd.ntmps16
  go_wp2_with fail
  go_loopw [4, 5, 10] (fun s4 s5 s10 wr => ∃ k : Nat, k ≤ n ∧ s10 = .int .i64 k ∧ s5 = .int .i64 ((k : Int) - 1 - (gapsTo (l.map Ev.g) g k).2) ∧ wr.ownsRow w.heap.size 3 1 s4 (gapsTo (l.map Ev.g) g k).1.length ((gapsTo (l.map Ev.g) g k).1.map (Value.int .i64)) ∧ Below w.heap.size w wr) (fun _ _ s10 _ => n - (intOf s10).toNat)
  case atStart => exact ⟨0, Nat.zero_le _, rfl, rfl, World.ownsRow_nil _ _ _ _, Below.refl _ _⟩
  case round =>
    obtain ⟨k, hk, rfl, rfl, hown, hb⟩ := hrel
    by_cases hlt : k < n
    · obtain ⟨b, o, rfl, q⟩ := H2.out (by omega)
      have hE := (q k hlt).below hb (Nat.le_refl _)
      clear q
      obtain ⟨ev, hev⟩ : ∃ ev, ev = l.getD k default := ⟨_, rfl⟩
      rw [← hev] at hE
      obtain ⟨c0, c1, c2, c3, c4⟩ := hE
      have HX : Hid (ev.g = (l.map Ev.g).getD k 0) := by
        show _ = _
        rw [hev]; have := HN.out; simp [List.getD, List.getElem?_map, List.getElem?_eq_getElem (show k < l.length by omega)]
      clear hev
      have hle := gapsTo_le (l.map Ev.g) g k
      obtain ⟨L, hL⟩ : ∃ L, L = (gapsTo (l.map Ev.g) g k).1 := ⟨_, rfl⟩
      obtain ⟨m, hm⟩ : ∃ m, m = (gapsTo (l.map Ev.g) g k).2 := ⟨_, rfl⟩
      rw [← hL] at hown hle
      rw [← hm] at hle ⊢
      have HL := Lib.hid hL
      have HM := Lib.hid hm
      clear hL hm
      obtain ⟨hle1, hle2⟩ := hle
      have k0 : (0 : Int) ≤ (k : Int) := by omega
      have k1 : (k : Int) < (n : Int) := by omega
      have hz := hb.size
      by_cases hg : ev.g = g
      · have hb2 : (ev.g == g) = true := by simpa using hg
        have HG := Lib.hid hg
        clear hg
        have hmm : (k : Int) - ((k : Int) - 1 - (m : Int)) - 1 = (m : Int) := by omega
        have hb1 := hb.alloc hz (.cells #[.int .i64 ev.kind, .int .i64 ev.g, .int .i64 ev.fn, .int .i64 ev.pc, .int .i64 ev.n] 38)
        have hz1 := hb1.size
        have hown1 := hown.alloc (.cells #[.int .i64 ev.kind, .int .i64 ev.g, .int .i64 ev.fn, .int .i64 ev.pc, .int .i64 ev.n] 38)
        go_wp2_with (at_builtin; refine wpList_app _ 3 [.int .i64 m] rfl _ _ 26 rfl w.heap.size (.int .i64 0) 1 8 Tryd.underlying26 Tryd.info3 rfl (by decide) _ _ _ rfl hown1 _ rfl (by simp) rfl rfl (by omega) (by omega) hz1 w.heap.size w hb1 (Nat.le_refl _) ?_; intro gg cap w' hown' hb' _ _)
        go_roundw
        case rel =>
          have e : gapsTo (l.map Ev.g) g (k + 1) = (L ++ [(m : Int)], 0) := by
            show (if (l.map Ev.g).getD k 0 = g then _ else _) = _
            rw [← HX.out, if_pos HG.out, ← HL.out, ← HM.out]
          refine ⟨k + 1, by omega, by go_num, ?_, ?_, hb'⟩
          · rw [e]; congr 1; show (k : Int) = ((k + 1 : Nat) : Int) - 1 - ((0 : Nat) : Int); omega
          · rw [e]; simpa using hown'
        case measure => simp [intOf]; omega
      · have hb2 : (ev.g == g) = false := by simpa using hg
        go_wp2_with fail
        go_roundw
        case rel =>
          have e : gapsTo (l.map Ev.g) g (k + 1) = (L, m + 1) := by
            show (if (l.map Ev.g).getD k 0 = g then _ else _) = _
            rw [← HX.out, if_neg hg, ← HL.out, ← HM.out]
          refine ⟨k + 1, by omega, by go_num, ?_, ?_, hb.alloc hz _⟩
          · rw [e]; congr 1; show (k : Int) - 1 - (m : Int) = ((k + 1 : Nat) : Int) - 1 - ((m + 1 : Nat) : Int); omega
          · rw [e]; exact hown.alloc _
        case measure => simp [intOf]; omega
    · have e : k = n := by omega
      have HE := Lib.hid e
      clear e
      go_wp2_with fail
      go_ret
      have e := HE.out
      subst e
      exact ⟨_, rfl, hown, hb⟩
end Go.Proofs.YtfcoigcenheefaaDoor
