import Derived.Test.YtfcoigcenheefaaDoorEvText
set_option linter.unusedVariables false
set_option linter.unusedSimpArgs false
namespace Go.Proofs.YtfcoigcenheefaaDoor
open Go.RowKit
def RLine (b : Nat) (g fn pc : Int) (G F C : List UInt8) : Nat → Value → World → Prop
  | 0, v, w => v = .pointer (some ⟨b, 1, none⟩)
  | 1, v, w => v = .int .i64 g
  | 2, v, w => v = .string ⟨G.toArray⟩
  | 3, v, w => v = .string ⟨(32 :: G).toArray⟩
  | 4, v, w => v = .string ⟨(32 :: G ++ [32]).toArray⟩
  | 5, v, w => v = .pointer (some ⟨b, 2, none⟩)
  | 6, v, w => v = .int .i64 fn
  | 7, v, w => v = .string ⟨F.toArray⟩
  | 8, v, w => v = .string ⟨(32 :: G ++ [32] ++ F).toArray⟩
  | 9, v, w => v = .string ⟨(32 :: G ++ [32] ++ F ++ [32]).toArray⟩
  | 10, v, w => v = .pointer (some ⟨b, 3, none⟩)
  | 11, v, w => v = .int .i64 pc
  | 12, v, w => v = .string ⟨C.toArray⟩
  | 13, v, w => v = .string ⟨(32 :: G ++ [32] ++ F ++ [32] ++ C).toArray⟩
  | 14, v, w => v = .string ⟨(32 :: G ++ [32] ++ F ++ [32] ++ C).toArray⟩
  | _, _, _ => True
theorem rline_stab (b : Nat) (g fn pc : Int) (G F C : List UInt8) {w w' : World} : ∀ j u, RLine b g fn pc G F C j u w → RLine b g fn pc G F C j u w' := by
  intro j u h
  unfold RLine at h ⊢
  split at h <;> simp_all
set_option maxRecDepth 100000 in
set_option maxHeartbeats 1000000 in
theorem rline_ok (w : World) (kind g fn pc n : Int) (hk : kind = 1 ∨ kind = 2) (hr : rightB ⟨kind, g, fn, pc, n⟩ = true) (b1 : -9223372036854775808 ≤ g) (b2 : g ≤ 9223372036854775807) (b3 : -9223372036854775808 ≤ fn) (b4 : fn ≤ 9223372036854775807) (b5 : -9223372036854775808 ≤ pc) (b6 : pc ≤ 9223372036854775807) (b7 : -9223372036854775808 ≤ n) (b8 : n ≤ 9223372036854775807) : Calls Tryd.prog 22 #[.agg #[.int .i64 kind, .int .i64 g, .int .i64 fn, .int .i64 pc, .int .i64 n]] w fun x w' => x = .returned (.tuple #[.string ⟨(lineE ⟨kind, g, fn, pc, n⟩).toArray⟩, .int .i64 0]) ∧ Below w.heap.size w w' := by
  obtain ⟨wa, ha⟩ : ∃ wa, wa = (w.alloc (Obj.cells #[Value.int .i64 kind, .int .i64 g, .int .i64 fn, .int .i64 pc, .int .i64 n] 38)) := ⟨_, rfl⟩
  have hba : Below w.heap.size w wa := by rw [ha]; exact (Below.refl _ _).alloc (Nat.le_refl _) _
  have HR := rright_any wa kind g fn pc n
  rw [hr] at HR
  have HR' := Lib.hid HR
  have HA := Lib.hid ha
  have HK := Lib.hid hk
  have c0 : wa.cell? ⟨w.heap.size, 0, none⟩ = some (.int .i64 kind) := by rw [ha]; simp
  have c1 : wa.cell? ⟨w.heap.size, 1, none⟩ = some (.int .i64 g) := by rw [ha]; simp
  have c2 : wa.cell? ⟨w.heap.size, 2, none⟩ = some (.int .i64 fn) := by rw [ha]; simp
  have c3 : wa.cell? ⟨w.heap.size, 3, none⟩ = some (.int .i64 pc) := by rw [ha]; simp
  have c4 : wa.cell? ⟨w.heap.size, 4, none⟩ = some (.int .i64 n) := by rw [ha]; simp
  clear ha HR hr hk
  have hG : (Lib.itoa g).length ≤ 30 := itoa_len g b1 b2
  have hF : (Lib.itoa fn).length ≤ 30 := itoa_len fn b3 b4
  have hC : (Lib.itoa pc).length ≤ 30 := itoa_len pc b5 b6
  go_enter Tryd.func22, Tryd.ntmps22
  go_wp2_with fail
  rw [← HA.out]
  refine HR'.out.mono ?_
  rintro e w1 ⟨rfl, hb1⟩
  have d0 := below_cell hb1 (Nat.le_refl _) c0
  have d1 := below_cell hb1 (Nat.le_refl _) c1
  have d2 := below_cell hb1 (Nat.le_refl _) c2
  have d3 := below_cell hb1 (Nat.le_refl _) c3
  have d4 := below_cell hb1 (Nat.le_refl _) c4
  clear c0 c1 c2 c3 c4
  rename_i K1 K2 hK2
  refine hK2 _ _ ?_
  clear hK2
  go_wp2_with fail
  refine wp_region_inv (by kernel_rfl) 34 rfl (by kernel_rfl) (fun x y => Frm (fun _ => False) x y) (RLine w.heap.size g fn pc (Lib.itoa g) (Lib.itoa fn) (Lib.itoa pc)) (Frm.refl _ _) ?_ ?_
  · refine ⟨?_, ?_, ?_, ?_, ?_, ?_, ?_, ?_, ?_, ?_, ?_, ?_, ?_, ?_, ?_, trivial⟩
    · rintro ⟨t, ds⟩ w' hd hfr hT hdep K hK
      obtain rfl : ds = [] := hd
      have hv := hfr 1 rfl
      change t.getD 1 undef = .pointer (some ⟨w.heap.size, 0, none⟩) at hv
      go_simp
      exact hK _ _ hT (fun _ _ h => rline_stab _ _ _ _ _ _ _ _ _ h) rfl
    · rintro ⟨t, ds⟩ w' hd hfr hT hdep K hK
      obtain rfl : ds = [] := hd
      have hv := hdep ⟨0, .data⟩ (by simp) rfl _ rfl
      change t.getD 8 undef = .pointer (some ⟨w.heap.size, 1, none⟩) at hv
      have hc := hT.cell (show (World.drew _).cell? ⟨w.heap.size, 1, none⟩ = _ from d1) (fun e => e)
      go_simp
      exact hK _ _ hT (fun _ _ h => rline_stab _ _ _ _ _ _ _ _ _ h) rfl
    · rintro ⟨t, ds⟩ w' hd hfr hT hdep K hK
      obtain rfl : ds = [] := hd
      have hv := hdep ⟨1, .data⟩ (by simp) rfl _ rfl
      change t.getD 9 undef = .int .i64 g at hv
      go_simp
      refine (decimal_any w' g (by omega) (by omega)).mono ?_
      rintro e w2 ⟨rfl, hb⟩
      exact hK _ _ (hT.trans (⟨hb.os, hb.tape, hb.output, hb.size, fun k hk _ => hb.block k hk⟩ : Frm (fun _ => False) w' w2) (fun _ _ h => h)) (fun _ _ h => rline_stab _ _ _ _ _ _ _ _ _ h) rfl
    · rintro ⟨t, ds⟩ w' hd hfr hT hdep K hK
      obtain rfl : ds = [] := hd
      have hv := hdep ⟨2, .data⟩ (by simp) rfl _ rfl
      change t.getD 10 undef = .string ⟨(Lib.itoa g).toArray⟩ at hv
      have hl : ¬ (9223372036854775807 < 1 + (Lib.itoa g).length) := by omega
      go_simp
      refine hK _ _ hT (fun _ _ h => rline_stab _ _ _ _ _ _ _ _ _ h) ?_
      show Value.string _ = Value.string _
      congr 1
    · rintro ⟨t, ds⟩ w' hd hfr hT hdep K hK
      obtain rfl : ds = [] := hd
      have hv := hdep ⟨3, .data⟩ (by simp) rfl _ rfl
      change t.getD 11 undef = .string ⟨(32 :: Lib.itoa g).toArray⟩ at hv
      have hl : ¬ (9223372036854775807 < (Lib.itoa g).length + 1 + 1) := by omega
      go_simp
      refine hK _ _ hT (fun _ _ h => rline_stab _ _ _ _ _ _ _ _ _ h) ?_
      show Value.string _ = Value.string _
      congr 1
    · rintro ⟨t, ds⟩ w' hd hfr hT hdep K hK
      obtain rfl : ds = [] := hd
      have hv := hfr 1 rfl
      change t.getD 1 undef = .pointer (some ⟨w.heap.size, 0, none⟩) at hv
      go_simp
      exact hK _ _ hT (fun _ _ h => rline_stab _ _ _ _ _ _ _ _ _ h) rfl
    · rintro ⟨t, ds⟩ w' hd hfr hT hdep K hK
      obtain rfl : ds = [] := hd
      have hv := hdep ⟨5, .data⟩ (by simp) rfl _ rfl
      change t.getD 13 undef = .pointer (some ⟨w.heap.size, 2, none⟩) at hv
      have hc := hT.cell (show (World.drew _).cell? ⟨w.heap.size, 2, none⟩ = _ from d2) (fun e => e)
      go_simp
      exact hK _ _ hT (fun _ _ h => rline_stab _ _ _ _ _ _ _ _ _ h) rfl
    · rintro ⟨t, ds⟩ w' hd hfr hT hdep K hK
      obtain rfl : ds = [] := hd
      have hv := hdep ⟨6, .data⟩ (by simp) rfl _ rfl
      change t.getD 14 undef = .int .i64 fn at hv
      go_simp
      refine (decimal_any w' fn (by omega) (by omega)).mono ?_
      rintro e w2 ⟨rfl, hb⟩
      exact hK _ _ (hT.trans (⟨hb.os, hb.tape, hb.output, hb.size, fun k hk _ => hb.block k hk⟩ : Frm (fun _ => False) w' w2) (fun _ _ h => h)) (fun _ _ h => rline_stab _ _ _ _ _ _ _ _ _ h) rfl
    · rintro ⟨t, ds⟩ w' hd hfr hT hdep K hK
      obtain rfl : ds = [] := hd
      have hv := hdep ⟨4, .data⟩ (by simp) rfl _ rfl
      have hv2 := hdep ⟨7, .data⟩ (by simp) rfl _ rfl
      change t.getD 12 undef = .string ⟨(32 :: Lib.itoa g ++ [32]).toArray⟩ at hv
      change t.getD 15 undef = .string ⟨(Lib.itoa fn).toArray⟩ at hv2
      generalize hA1 : 32 :: Lib.itoa g ++ [32] = A1 at hv
      have hl1 : A1.length ≤ 200 := by rw [← hA1]; simp; omega
      have hl2 : ¬ (9223372036854775807 < A1.length + (Lib.itoa fn).length) := by omega
      go_simp
      refine hK _ _ hT (fun _ _ h => rline_stab _ _ _ _ _ _ _ _ _ h) ?_
      subst hA1
      show Value.string _ = Value.string _
      congr 1
    · rintro ⟨t, ds⟩ w' hd hfr hT hdep K hK
      obtain rfl : ds = [] := hd
      have hv := hdep ⟨8, .data⟩ (by simp) rfl _ rfl
      change t.getD 16 undef = .string ⟨(32 :: Lib.itoa g ++ [32] ++ Lib.itoa fn).toArray⟩ at hv
      generalize hA1 : 32 :: Lib.itoa g ++ [32] ++ Lib.itoa fn = A1 at hv
      have hl1 : A1.length ≤ 200 := by rw [← hA1]; simp; omega
      have hl2 : ¬ (9223372036854775807 < A1.length + 1) := by omega
      go_simp
      refine hK _ _ hT (fun _ _ h => rline_stab _ _ _ _ _ _ _ _ _ h) ?_
      subst hA1
      show Value.string _ = Value.string _
      congr 1
    · rintro ⟨t, ds⟩ w' hd hfr hT hdep K hK
      obtain rfl : ds = [] := hd
      have hv := hfr 1 rfl
      change t.getD 1 undef = .pointer (some ⟨w.heap.size, 0, none⟩) at hv
      go_simp
      exact hK _ _ hT (fun _ _ h => rline_stab _ _ _ _ _ _ _ _ _ h) rfl
    · rintro ⟨t, ds⟩ w' hd hfr hT hdep K hK
      obtain rfl : ds = [] := hd
      have hv := hdep ⟨10, .data⟩ (by simp) rfl _ rfl
      change t.getD 18 undef = .pointer (some ⟨w.heap.size, 3, none⟩) at hv
      have hc := hT.cell (show (World.drew _).cell? ⟨w.heap.size, 3, none⟩ = _ from d3) (fun e => e)
      go_simp
      exact hK _ _ hT (fun _ _ h => rline_stab _ _ _ _ _ _ _ _ _ h) rfl
    · rintro ⟨t, ds⟩ w' hd hfr hT hdep K hK
      obtain rfl : ds = [] := hd
      have hv := hdep ⟨11, .data⟩ (by simp) rfl _ rfl
      change t.getD 19 undef = .int .i64 pc at hv
      go_simp
      refine (decimal_any w' pc (by omega) (by omega)).mono ?_
      rintro e w2 ⟨rfl, hb⟩
      exact hK _ _ (hT.trans (⟨hb.os, hb.tape, hb.output, hb.size, fun k hk _ => hb.block k hk⟩ : Frm (fun _ => False) w' w2) (fun _ _ h => h)) (fun _ _ h => rline_stab _ _ _ _ _ _ _ _ _ h) rfl
    · rintro ⟨t, ds⟩ w' hd hfr hT hdep K hK
      obtain rfl : ds = [] := hd
      have hv := hdep ⟨9, .data⟩ (by simp) rfl _ rfl
      have hv2 := hdep ⟨12, .data⟩ (by simp) rfl _ rfl
      change t.getD 17 undef = .string ⟨(32 :: Lib.itoa g ++ [32] ++ Lib.itoa fn ++ [32]).toArray⟩ at hv
      change t.getD 20 undef = .string ⟨(Lib.itoa pc).toArray⟩ at hv2
      generalize hA1 : 32 :: Lib.itoa g ++ [32] ++ Lib.itoa fn ++ [32] = A1 at hv
      have hl1 : A1.length ≤ 200 := by rw [← hA1]; simp; omega
      have hl2 : ¬ (9223372036854775807 < A1.length + (Lib.itoa pc).length) := by omega
      go_simp
      refine hK _ _ hT (fun _ _ h => rline_stab _ _ _ _ _ _ _ _ _ h) ?_
      subst hA1
      show Value.string _ = Value.string _
      congr 1
    · rintro ⟨t, ds⟩ w' hd hfr hT hdep K hK
      obtain rfl : ds = [] := hd
      have hv := hdep ⟨13, .data⟩ (by simp) rfl _ rfl
      change t.getD 21 undef = .string ⟨(32 :: Lib.itoa g ++ [32] ++ Lib.itoa fn ++ [32] ++ Lib.itoa pc).toArray⟩ at hv
      generalize hA1 : 32 :: Lib.itoa g ++ [32] ++ Lib.itoa fn ++ [32] ++ Lib.itoa pc = A1 at hv
      go_simp
      subst hA1
      exact hK _ _ hT (fun _ _ h => rline_stab _ _ _ _ _ _ _ _ _ h) rfl
  · rename_i Kc hKc
    rintro ⟨t, ds⟩ w' hd hsz hfr hT hall
    refine hKc _ _ ?_
    clear hKc Kc
    obtain rfl : ds = [] := hd
    have ht := tmps_lit t 34 hsz
    have f1 := hfr 1 rfl
    have f4 := hall 14 _ rfl
    change t.getD 1 undef = .pointer (some ⟨w.heap.size, 0, none⟩) at f1
    change t.getD 4 undef = .string _ at f4
    simp only [f1, f4, List.range, List.range.loop, List.map] at ht
    rw [ht]
    clear ht f1 f4 hfr hall hsz
    have e0 := hT.cell (show (World.drew _).cell? ⟨w.heap.size, 0, none⟩ = _ from d0) (fun e => e)
    have e4 := hT.cell (show (World.drew _).cell? ⟨w.heap.size, 4, none⟩ = _ from d4) (fun e => e)
    have hb12 : Below w.heap.size w w1 := hba.trans (hb1.mono hba.size)
    have hb2 : Below w.heap.size w w' := hb12.trans (below_pre (Frm.below (B := w.heap.size) hT hb12.size (fun k h => False.elim h)))
    clear d0 d1 d2 d3 d4 hT hb12 hb1 hba HA HR'
    have hS2 : (32 :: Lib.itoa g ++ [32] ++ Lib.itoa fn ++ [32] ++ Lib.itoa pc).length ≤ 200 := by simp; omega
    have hL1 : Hid (kind = 1 → lineE ⟨kind, g, fn, pc, n⟩ = [98, 101, 103, 105, 110] ++ (32 :: Lib.itoa g ++ [32] ++ Lib.itoa fn ++ [32] ++ Lib.itoa pc)) := Lib.hid (fun e => by simp [lineE, e])
    have hL2 : Hid (kind = 2 → lineE ⟨kind, g, fn, pc, n⟩ = [99, 111, 109, 109, 105, 116] ++ (32 :: Lib.itoa g ++ [32] ++ Lib.itoa fn ++ [32] ++ Lib.itoa pc) ++ [32] ++ Lib.itoa n) := Lib.hid (fun e => by simp [lineE, e])
    generalize hS : 32 :: Lib.itoa g ++ [32] ++ Lib.itoa fn ++ [32] ++ Lib.itoa pc = S at *
    have hN : (Lib.itoa n).length ≤ 30 := itoa_len n b7 b8
    rcases HK.out with hk | hk
    · subst hk
      have hl3 : ¬ (9223372036854775807 < 5 + S.length) := by omega
      go_wp2_with fail
      go_ret2
      refine ⟨?_, hb2⟩
      rw [hL1.out (by trivial)]
      show Ending.returned (Value.tuple #[Value.string _, _]) = Ending.returned (Value.tuple #[Value.string _, _])
      congr 4
    · subst hk
      have hl3 : ¬ (9223372036854775807 < 6 + S.length) := by omega
      have hl4 : ¬ (9223372036854775807 < S.length + 6 + 1) := by omega
      go_wp2_with fail
      refine (decimal_any w' n (by omega) (by omega)).mono ?_
      rintro e w2 ⟨rfl, hb3⟩
      rename_i K3 K4 hK4
      refine hK4 _ _ ?_
      clear hK4
      generalize Lib.itoa n = N at *
      have hl5 : ¬ (9223372036854775807 < S.length + 6 + 1 + N.length) := by omega
      go_wp2_with fail
      go_ret2
      refine ⟨?_, hb2.trans (hb3.mono hb2.size)⟩
      rw [hL2.out (by trivial)]
      show Ending.returned (Value.tuple #[Value.string _, _]) = Ending.returned (Value.tuple #[Value.string _, _])
      congr 4
theorem rline_any (w : World) (e : Ev) (hn : NumOk e) : Calls Tryd.prog 22 #[evV e] w fun x w' => x = .returned (.tuple #[.string ⟨(lineT e).toArray⟩, .int .i64 (faultT (rightB e))]) ∧ Below w.heap.size w w' := by
  obtain ⟨kind, g, fn, pc, n⟩ := e
  cases hr : rightB ⟨kind, g, fn, pc, n⟩ with
  | false =>
    simp only [lineT, hr, faultT]
    exact rline_bad w kind g fn pc n hr
  | true =>
    simp only [lineT, hr, faultT]
    obtain ⟨h0, h1, h2, h3, h4, h5, h6⟩ := right_bd hr
    simp only at h0 h1 h2 h3 h4 h5 h6
    exact rline_ok w kind g fn pc n (by omega) hr (by omega) (by omega) (by omega) (by omega) (by omega) (by omega) hn.1 hn.2
end Go.Proofs.YtfcoigcenheefaaDoor
