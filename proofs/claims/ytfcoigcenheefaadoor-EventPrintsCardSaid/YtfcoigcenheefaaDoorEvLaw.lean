import Derived.Test.YtfcoigcenheefaaDoorEvPrint
import Derived.Test.YtfcoigcenheefaaDoorEvSame
set_option linter.unusedVariables false
set_option linter.unusedSimpArgs false
namespace Go.Proofs.YtfcoigcenheefaaDoor
open Go.RowKit
def REvP (b1 o1 k n c1 : Nat) (S : ByteArray) (F : Int) (A : Value) (r : Bool) : Nat → Value → World → Prop
  | 0, v, _ => v = .string S
  | 1, v, _ => v = .string S
  | 2, v, _ => v = .bool false
  | 3, v, _ => v = .bool false
  | 4, v, _ => v = .int .i64 F
  | 5, v, _ => v = .int .i64 F
  | 6, v, _ => v = .bool false
  | 7, v, _ => v = .bool false
  | 8, v, _ => v = .bool false
  | 9, v, _ => v = .slice (some ⟨b1, o1, none⟩) n c1
  | 10, v, _ => v = .int .i64 k
  | 11, v, _ => v = .pointer (some ⟨b1, o1 + k * 5, none⟩)
  | 12, v, _ => v = A
  | 13, v, _ => v = .bool r
  | 14, v, _ => v = .slice (some ⟨b1, o1, none⟩) n c1
  | 15, v, _ => v = .int .i64 k
  | 16, v, _ => v = .pointer (some ⟨b1, o1 + k * 5, none⟩)
  | 17, v, _ => v = A
  | 18, v, _ => v = .bool r
  | 19, v, _ => v = .bool false
  | 20, v, _ => v = .bool false
  | _, _, _ => True
theorem revp_stab (b1 o1 k n c1 : Nat) (S : ByteArray) (F : Int) (A : Value) (r : Bool) {w w' : World} : ∀ j u, REvP b1 o1 k n c1 S F A r j u w → REvP b1 o1 k n c1 S F A r j u w' := by
  intro j u h
  unfold REvP at h ⊢
  split at h <;> simp_all
theorem getD_bool {t : Array Value} {i : Nat} {b : Bool} (h : t.getD i undef = .bool b) : t[i]? = some (.bool b) := by
  rw [Array.getD_eq_getD_getElem?] at h
  cases hi : t[i]? with
  | none => rw [hi] at h; simp [undef] at h
  | some x => rw [hi] at h; simpa using h
set_option maxRecDepth 100000 in
set_option maxHeartbeats 2000000 in
theorem eventPrints_any (w : World) (v1 v2 : Value) (xs ys : List Ev) (h1 : EvsAt w v1 xs) (h2 : EvsAt w v2 ys) (hx : xs.length ≤ maxLen) (hy : ys.length ≤ maxLen) (hn : ∀ k, k < xs.length → NumOk (xs.getD k default)) (htab : TabP w) :
    Calls Tryd.prog 5 #[v1, v2] w fun e w' => e = .returned (.bool true) ∧ Below w.heap.size w w' := by
  unfold maxLen at hx hy
  have g1 := h1
  have g2 := h2
  obtain ⟨a1, c1, rfl, q1⟩ := h1
  obtain ⟨a2, c2, rfl, q2⟩ := h2
  obtain ⟨n, hlen⟩ : ∃ n, n = xs.length := ⟨_, rfl⟩
  obtain ⟨m, hlem⟩ : ∃ m, m = ys.length := ⟨_, rfl⟩
  rw [← hlen] at hx g1 ⊢
  rw [← hlem] at hy g2 ⊢
  have HLEN := Lib.hid hlen
  have HLEM := Lib.hid hlem
  have Q1 := Lib.hid q1
  have G1 := Lib.hid g1
  have G2 := Lib.hid g2
  have HN := Lib.hid hn
  have HT := Lib.hid htab
  clear hlen hlem q1 q2 g1 g2 hn htab
  by_cases hb1 : 60 < n
  · have hbi : (60 : Int) < n := by omega
    go_enter Tryd.func5, Tryd.ntmps5
    go_wp2_with fail
    refine (evalive_any w HT.out).mono ?_
    rintro e w1 ⟨rfl, hb⟩
    rename_i K1 K2 hK2
    refine hK2 _ _ ?_
    clear hK2
    go_wp2_with fail
    go_ret
    exact ⟨rfl, hb⟩
  · have hbi : (n : Int) ≤ 60 := by omega
    by_cases hb2 : 60 < m
    · have hbi2 : (60 : Int) < m := by omega
      go_enter Tryd.func5, Tryd.ntmps5
      go_wp2_with fail
      refine (evalive_any w HT.out).mono ?_
      rintro e w1 ⟨rfl, hb⟩
      rename_i K1 K2 hK2
      refine hK2 _ _ ?_
      clear hK2
      go_wp2_with fail
      go_ret
      exact ⟨rfl, hb⟩
    · have hbi2 : (m : Int) ≤ 60 := by omega
      go_enter Tryd.func5, Tryd.ntmps5
      go_wp2_with fail
      go_loopw [5] (fun s5 wr => ∃ k : Nat, k ≤ n ∧ s5 = .int .i64 k ∧ Hid (Below w.heap.size w wr)) (fun s5 _ => n - (intOf s5).toNat)
      case atStart => exact ⟨0, Nat.zero_le _, rfl, Lib.hid (Below.refl _ _)⟩
      case round =>
        obtain ⟨k, hk, rfl, hb⟩ := hrel
        by_cases hlt : k < n
        · have hkl : k < xs.length := by have := HLEN.out; omega
          obtain ⟨b1, o1, rfl, q1⟩ := Q1.out (by omega)
          have d1 := q1 k hkl
          have hnk := HN.out k hkl
          clear q1
          obtain ⟨x, hx0⟩ : ∃ x, x = xs.getD k default := ⟨_, rfl⟩
          rw [← hx0] at d1 hnk
          clear hx0
          have hE : Hid (EvAt wr b1 (o1 + k * 5) x) := Lib.hid (d1.below hb.out (Nat.le_refl _))
          have ht1 := Lib.hid (tab_below HT.out hb.out (Nat.le_refl _))
          have HC := Lib.hid (fun w ht => line_any w x hnk ht)
          have HC2 := Lib.hid (fun w => rline_any w x hnk)
          clear d1 hnk
          obtain ⟨x1, x2, x3, x4, x5⟩ := x
          have HR1 := Lib.hid (fun w => right_any w x1 x2 x3 x4 x5)
          have HR2 := Lib.hid (fun w => rright_any w x1 x2 x3 x4 x5)
          obtain ⟨p0, p1, p2, p3, p4⟩ := hE.out
          have k0 : (0 : Int) ≤ (k : Int) := by omega
          have k1 : (k : Int) < (n : Int) := by omega
          go_wp2_with fail
          refine (HC.out wr ht1.out).mono ?_
          rintro e w2 ⟨rfl, hb2⟩
          have hE2 := Lib.hid (hE.out.below hb2 (Nat.le_refl _))
          have hb3 := Lib.hid (hb.out.trans (hb2.mono hb.out.size))
          clear hb2 p0 p1 p2 p3 p4 hE
          obtain ⟨p0, p1, p2, p3, p4⟩ := hE2.out
          rename_i K1 K2 hK2
          refine hK2 _ _ ?_
          clear hK2
          go_wp2_with fail
          refine (HC2.out w2).mono ?_
          rintro e w3 ⟨rfl, hb4⟩
          have hE3 := Lib.hid (hE2.out.below hb4 (Nat.le_refl _))
          have hb5 := Lib.hid (hb3.out.trans (hb4.mono hb3.out.size))
          clear hb4 p0 p1 p2 p3 p4 hE2 HC HC2
          obtain ⟨p0, p1, p2, p3, p4⟩ := hE3.out
          rename_i K1 K2 hK2
          refine hK2 _ _ ?_
          clear hK2
          go_upto_region 8 with fail
          have hEx : Hid (EvAt w3.drew b1 (o1 + k * 5) ⟨x1, x2, x3, x4, x5⟩) := Lib.hid (hE3.out.below (below_drewN w3.heap.size w3 1) (Nat.le_refl _))
          clear p0 p1 p2 p3 p4
          generalize hS : (⟨(lineT ⟨x1, x2, x3, x4, x5⟩).toArray⟩ : ByteArray) = S at *
          generalize hF : faultT (rightB ⟨x1, x2, x3, x4, x5⟩) = F at *
          generalize hr : rightB ⟨x1, x2, x3, x4, x5⟩ = r at *
          generalize hA : Value.agg #[.int .i64 x1, .int .i64 x2, .int .i64 x3, .int .i64 x4, .int .i64 x5] = A at *
          refine wp_region_inv (by kernel_rfl) 96 rfl (by kernel_rfl) (fun x y => Below w3.drew.heap.size x y) (REvP b1 o1 k n c1 S F A r) (Below.refl _ _) ?_ ?_
          · refine ⟨?_, ?_, ?_, ?_, ?_, ?_, ?_, ?_, ?_, ?_, ?_, ?_, ?_, ?_, ?_, ?_, ?_, ?_, ?_, ?_, ?_, trivial⟩
            · rintro ⟨t, ds⟩ w' hd hfr hT hdep K hK
              obtain rfl : ds = [] := hd
              have hv0 := hfr 6 rfl
              change t.getD 6 undef = .string S at hv0
              skip
              go_simp
              exact hK _ _ hT (fun _ _ h => revp_stab _ _ _ _ _ _ _ _ _ _ _ h) rfl
            · rintro ⟨t, ds⟩ w' hd hfr hT hdep K hK
              obtain rfl : ds = [] := hd
              have hv0 := hfr 8 rfl
              change t.getD 8 undef = .string S at hv0
              skip
              go_simp
              exact hK _ _ hT (fun _ _ h => revp_stab _ _ _ _ _ _ _ _ _ _ _ h) rfl
            · rintro ⟨t, ds⟩ w' hd hfr hT hdep K hK
              obtain rfl : ds = [] := hd
              skip
              have hv0 := hdep ⟨0, .data⟩ (by simp) rfl _ rfl
              change t.getD 45 undef = .string S at hv0
              have hv1 := hdep ⟨1, .data⟩ (by simp) rfl _ rfl
              change t.getD 46 undef = .string S at hv1
              go_simp
              exact hK _ _ hT (fun _ _ h => revp_stab _ _ _ _ _ _ _ _ _ _ _ h) rfl
            · rintro ⟨t, ds⟩ w' hd hfr hT hdep K hK
              obtain rfl : ds = [] := hd
              skip
              have hv0 := hdep ⟨2, .data⟩ (by simp) rfl _ rfl
              change t.getD 47 undef = .bool false at hv0
              go_simp
              exact hK _ _ hT (fun _ _ h => revp_stab _ _ _ _ _ _ _ _ _ _ _ h) rfl
            · rintro ⟨t, ds⟩ w' hd hfr hT hdep K hK
              obtain rfl : ds = [] := hd
              have hv0 := hfr 7 rfl
              change t.getD 7 undef = .int .i64 F at hv0
              skip
              have hv1 := hdep ⟨3, .guard⟩ (by simp) rfl _ rfl
              change t.getD 48 undef = .bool false at hv1
              have hg := getD_bool hv1
              go_simp
              exact hK _ _ hT (fun _ _ h => revp_stab _ _ _ _ _ _ _ _ _ _ _ h) rfl
            · rintro ⟨t, ds⟩ w' hd hfr hT hdep K hK
              obtain rfl : ds = [] := hd
              have hv0 := hfr 9 rfl
              change t.getD 9 undef = .int .i64 F at hv0
              skip
              have hv1 := hdep ⟨3, .guard⟩ (by simp) rfl _ rfl
              change t.getD 48 undef = .bool false at hv1
              have hg := getD_bool hv1
              go_simp
              exact hK _ _ hT (fun _ _ h => revp_stab _ _ _ _ _ _ _ _ _ _ _ h) rfl
            · rintro ⟨t, ds⟩ w' hd hfr hT hdep K hK
              obtain rfl : ds = [] := hd
              skip
              have hv0 := hdep ⟨4, .data⟩ (by simp) rfl _ rfl
              change t.getD 49 undef = .int .i64 F at hv0
              have hv1 := hdep ⟨5, .data⟩ (by simp) rfl _ rfl
              change t.getD 50 undef = .int .i64 F at hv1
              have hv2 := hdep ⟨3, .guard⟩ (by simp) rfl _ rfl
              change t.getD 48 undef = .bool false at hv2
              have hg := getD_bool hv2
              go_simp
              exact hK _ _ hT (fun _ _ h => revp_stab _ _ _ _ _ _ _ _ _ _ _ h) rfl
            · rintro ⟨t, ds⟩ w' hd hfr hT hdep K hK
              obtain rfl : ds = [] := hd
              skip
              have hv0 := hdep ⟨3, .data⟩ (by simp) rfl _ rfl
              change t.getD 48 undef = .bool false at hv0
              have hv1 := hdep ⟨6, .data⟩ (by simp) rfl _ rfl
              change t.getD 51 undef = .bool false at hv1
              go_simp
              exact hK _ _ hT (fun _ _ h => revp_stab _ _ _ _ _ _ _ _ _ _ _ h) rfl
            · rintro ⟨t, ds⟩ w' hd hfr hT hdep K hK
              obtain rfl : ds = [] := hd
              skip
              have hv0 := hdep ⟨7, .data⟩ (by simp) rfl _ rfl
              change t.getD 52 undef = .bool false at hv0
              go_simp
              exact hK _ _ hT (fun _ _ h => revp_stab _ _ _ _ _ _ _ _ _ _ _ h) rfl
            · rintro ⟨t, ds⟩ w' hd hfr hT hdep K hK
              obtain rfl : ds = [] := hd
              have hv0 := hfr 0 rfl
              change t.getD 0 undef = .slice (some ⟨b1, o1, none⟩) n c1 at hv0
              skip
              have hv1 := hdep ⟨8, .guard⟩ (by simp) rfl _ rfl
              change t.getD 53 undef = .bool false at hv1
              have hg := getD_bool hv1
              go_simp
              exact hK _ _ hT (fun _ _ h => revp_stab _ _ _ _ _ _ _ _ _ _ _ h) rfl
            · rintro ⟨t, ds⟩ w' hd hfr hT hdep K hK
              obtain rfl : ds = [] := hd
              have hv0 := hfr 5 rfl
              change t.getD 5 undef = .int .i64 k at hv0
              skip
              have hv1 := hdep ⟨8, .guard⟩ (by simp) rfl _ rfl
              change t.getD 53 undef = .bool false at hv1
              have hg := getD_bool hv1
              go_simp
              exact hK _ _ hT (fun _ _ h => revp_stab _ _ _ _ _ _ _ _ _ _ _ h) rfl
            · rintro ⟨t, ds⟩ w' hd hfr hT hdep K hK
              obtain rfl : ds = [] := hd
              skip
              have hv0 := hdep ⟨9, .data⟩ (by simp) rfl _ rfl
              change t.getD 54 undef = .slice (some ⟨b1, o1, none⟩) n c1 at hv0
              have hv1 := hdep ⟨10, .data⟩ (by simp) rfl _ rfl
              change t.getD 55 undef = .int .i64 k at hv1
              have hv2 := hdep ⟨8, .guard⟩ (by simp) rfl _ rfl
              change t.getD 53 undef = .bool false at hv2
              have hg := getD_bool hv2
              go_simp
              exact hK _ _ hT (fun _ _ h => revp_stab _ _ _ _ _ _ _ _ _ _ _ h) rfl
            · rintro ⟨t, ds⟩ w' hd hfr hT hdep K hK
              obtain rfl : ds = [] := hd
              skip
              have hv0 := hdep ⟨11, .data⟩ (by simp) rfl _ rfl
              change t.getD 56 undef = .pointer (some ⟨b1, o1 + k * 5, none⟩) at hv0
              have hv1 := hdep ⟨8, .guard⟩ (by simp) rfl _ rfl
              change t.getD 53 undef = .bool false at hv1
              have hg := getD_bool hv1
              have hT2 := hEx.out.below hT (Nat.le_refl _)
              obtain ⟨p0, p1, p2, p3, p4⟩ := hT2
              go_simp
              exact hK _ _ hT (fun _ _ h => revp_stab _ _ _ _ _ _ _ _ _ _ _ h) rfl
            · rintro ⟨t, ds⟩ w' hd hfr hT hdep K hK
              obtain rfl : ds = [] := hd
              skip
              have hv0 := hdep ⟨12, .data⟩ (by simp) rfl _ rfl
              change t.getD 57 undef = A at hv0
              have hv1 := hdep ⟨8, .guard⟩ (by simp) rfl _ rfl
              change t.getD 53 undef = .bool false at hv1
              have hg := getD_bool hv1
              go_simp
              refine (HR1.out _).mono ?_
              rintro e wq ⟨rfl, hbq⟩
              exact hK _ _ (hT.trans (hbq.mono hT.size)) (fun _ _ h => revp_stab _ _ _ _ _ _ _ _ _ _ _ h) rfl
            · rintro ⟨t, ds⟩ w' hd hfr hT hdep K hK
              obtain rfl : ds = [] := hd
              have hv0 := hfr 0 rfl
              change t.getD 0 undef = .slice (some ⟨b1, o1, none⟩) n c1 at hv0
              skip
              have hv1 := hdep ⟨8, .guard⟩ (by simp) rfl _ rfl
              change t.getD 53 undef = .bool false at hv1
              have hg := getD_bool hv1
              go_simp
              exact hK _ _ hT (fun _ _ h => revp_stab _ _ _ _ _ _ _ _ _ _ _ h) rfl
            · rintro ⟨t, ds⟩ w' hd hfr hT hdep K hK
              obtain rfl : ds = [] := hd
              have hv0 := hfr 5 rfl
              change t.getD 5 undef = .int .i64 k at hv0
              skip
              have hv1 := hdep ⟨8, .guard⟩ (by simp) rfl _ rfl
              change t.getD 53 undef = .bool false at hv1
              have hg := getD_bool hv1
              go_simp
              exact hK _ _ hT (fun _ _ h => revp_stab _ _ _ _ _ _ _ _ _ _ _ h) rfl
            · rintro ⟨t, ds⟩ w' hd hfr hT hdep K hK
              obtain rfl : ds = [] := hd
              skip
              have hv0 := hdep ⟨14, .data⟩ (by simp) rfl _ rfl
              change t.getD 59 undef = .slice (some ⟨b1, o1, none⟩) n c1 at hv0
              have hv1 := hdep ⟨15, .data⟩ (by simp) rfl _ rfl
              change t.getD 60 undef = .int .i64 k at hv1
              have hv2 := hdep ⟨8, .guard⟩ (by simp) rfl _ rfl
              change t.getD 53 undef = .bool false at hv2
              have hg := getD_bool hv2
              go_simp
              exact hK _ _ hT (fun _ _ h => revp_stab _ _ _ _ _ _ _ _ _ _ _ h) rfl
            · rintro ⟨t, ds⟩ w' hd hfr hT hdep K hK
              obtain rfl : ds = [] := hd
              skip
              have hv0 := hdep ⟨16, .data⟩ (by simp) rfl _ rfl
              change t.getD 61 undef = .pointer (some ⟨b1, o1 + k * 5, none⟩) at hv0
              have hv1 := hdep ⟨8, .guard⟩ (by simp) rfl _ rfl
              change t.getD 53 undef = .bool false at hv1
              have hg := getD_bool hv1
              have hT2 := hEx.out.below hT (Nat.le_refl _)
              obtain ⟨p0, p1, p2, p3, p4⟩ := hT2
              go_simp
              exact hK _ _ hT (fun _ _ h => revp_stab _ _ _ _ _ _ _ _ _ _ _ h) rfl
            · rintro ⟨t, ds⟩ w' hd hfr hT hdep K hK
              obtain rfl : ds = [] := hd
              skip
              have hv0 := hdep ⟨17, .data⟩ (by simp) rfl _ rfl
              change t.getD 62 undef = A at hv0
              have hv1 := hdep ⟨8, .guard⟩ (by simp) rfl _ rfl
              change t.getD 53 undef = .bool false at hv1
              have hg := getD_bool hv1
              go_simp
              refine (HR2.out _).mono ?_
              rintro e wq ⟨rfl, hbq⟩
              exact hK _ _ (hT.trans (hbq.mono hT.size)) (fun _ _ h => revp_stab _ _ _ _ _ _ _ _ _ _ _ h) rfl
            · rintro ⟨t, ds⟩ w' hd hfr hT hdep K hK
              obtain rfl : ds = [] := hd
              skip
              have hv0 := hdep ⟨13, .data⟩ (by simp) rfl _ rfl
              change t.getD 58 undef = .bool r at hv0
              have hv1 := hdep ⟨18, .data⟩ (by simp) rfl _ rfl
              change t.getD 63 undef = .bool r at hv1
              have hv2 := hdep ⟨8, .guard⟩ (by simp) rfl _ rfl
              change t.getD 53 undef = .bool false at hv2
              have hg := getD_bool hv2
              go_simp
              exact hK _ _ hT (fun _ _ h => revp_stab _ _ _ _ _ _ _ _ _ _ _ h) rfl
            · rintro ⟨t, ds⟩ w' hd hfr hT hdep K hK
              obtain rfl : ds = [] := hd
              skip
              have hv0 := hdep ⟨8, .data⟩ (by simp) rfl _ rfl
              change t.getD 53 undef = .bool false at hv0
              have hv1 := hdep ⟨19, .data⟩ (by simp) rfl _ rfl
              change t.getD 64 undef = .bool false at hv1
              go_simp
              exact hK _ _ hT (fun _ _ h => revp_stab _ _ _ _ _ _ _ _ _ _ _ h) rfl
          · rename_i Kc hKc
            rintro ⟨t, ds⟩ w' hd hsz hfr hT hall
            refine hKc _ _ ?_
            clear hKc Kc
            obtain rfl : ds = [] := hd
            have ht := tmps_lit t 96 hsz
            have f0 : t.getD 0 undef = .slice (some ⟨b1, o1, none⟩) n c1 := hfr 0 rfl
            have f1 : t.getD 1 undef = .slice a2 m c2 := hfr 1 rfl
            have f2 : t.getD 2 undef = undef := hfr 2 rfl
            have f3 : t.getD 3 undef = undef := hfr 3 rfl
            have f5 : t.getD 5 undef = .int .i64 k := hfr 5 rfl
            have f10 : t.getD 10 undef = undef := hfr 10 rfl
            have f11 : t.getD 11 undef = undef := hfr 11 rfl
            have f12 : t.getD 12 undef = undef := hfr 12 rfl
            have f13 : t.getD 13 undef = undef := hfr 13 rfl
            have f14 : t.getD 14 undef = .slice (some ⟨b1, o1, none⟩) n c1 := hfr 14 rfl
            have f15 : t.getD 15 undef = .int .i64 n := hfr 15 rfl
            have f16 : t.getD 16 undef = .bool (decide ((60 : Int) < n)) := hfr 16 rfl
            have f17 : t.getD 17 undef = .bool (decide ((60 : Int) < n)) := hfr 17 rfl
            have f18 : t.getD 18 undef = .slice a2 m c2 := hfr 18 rfl
            have f19 : t.getD 19 undef = .int .i64 m := hfr 19 rfl
            have f20 : t.getD 20 undef = .bool (decide ((60 : Int) < m)) := hfr 20 rfl
            have f21 : t.getD 21 undef = .bool (decide ((60 : Int) < n) || decide ((60 : Int) < m)) := hfr 21 rfl
            have f22 : t.getD 22 undef = undef := hfr 22 rfl
            have f66 : t.getD 66 undef = undef := hfr 66 rfl
            have f67 : t.getD 67 undef = undef := hfr 67 rfl
            have f68 : t.getD 68 undef = undef := hfr 68 rfl
            have f69 : t.getD 69 undef = undef := hfr 69 rfl
            have f70 : t.getD 70 undef = undef := hfr 70 rfl
            have f71 : t.getD 71 undef = undef := hfr 71 rfl
            have f72 : t.getD 72 undef = undef := hfr 72 rfl
            have f73 : t.getD 73 undef = undef := hfr 73 rfl
            have f74 : t.getD 74 undef = undef := hfr 74 rfl
            have f75 : t.getD 75 undef = undef := hfr 75 rfl
            have f76 : t.getD 76 undef = undef := hfr 76 rfl
            have f77 : t.getD 77 undef = undef := hfr 77 rfl
            have f78 : t.getD 78 undef = undef := hfr 78 rfl
            have f79 : t.getD 79 undef = undef := hfr 79 rfl
            have f80 : t.getD 80 undef = undef := hfr 80 rfl
            have f81 : t.getD 81 undef = undef := hfr 81 rfl
            have f82 : t.getD 82 undef = undef := hfr 82 rfl
            have f83 : t.getD 83 undef = undef := hfr 83 rfl
            have f84 : t.getD 84 undef = undef := hfr 84 rfl
            have f85 : t.getD 85 undef = undef := hfr 85 rfl
            have f86 : t.getD 86 undef = undef := hfr 86 rfl
            have f87 : t.getD 87 undef = undef := hfr 87 rfl
            have f88 : t.getD 88 undef = undef := hfr 88 rfl
            have f89 : t.getD 89 undef = undef := hfr 89 rfl
            have f90 : t.getD 90 undef = undef := hfr 90 rfl
            have f91 : t.getD 91 undef = undef := hfr 91 rfl
            have f92 : t.getD 92 undef = undef := hfr 92 rfl
            have f93 : t.getD 93 undef = undef := hfr 93 rfl
            have f94 : t.getD 94 undef = undef := hfr 94 rfl
            have f95 : t.getD 95 undef = undef := hfr 95 rfl
            have f65 : t.getD 65 undef = .bool false := hall 20 _ rfl
            simp only [f0, f1, f2, f3, f5, f10, f11, f12, f13, f14, f15, f16, f17, f18, f19, f20, f21, f22, f66, f67, f68, f69, f70, f71, f72, f73, f74, f75, f76, f77, f78, f79, f80, f81, f82, f83, f84, f85, f86, f87, f88, f89, f90, f91, f92, f93, f94, f95, f65, List.range, List.range.loop, List.map] at ht
            rw [ht]
            clear ht f0 f1 f2 f3 f5 f10 f11 f12 f13 f14 f15 f16 f17 f18 f19 f20 f21 f22 f66 f67 f68 f69 f70 f71 f72 f73 f74 f75 f76 f77 f78 f79 f80 f81 f82 f83 f84 f85 f86 f87 f88 f89 f90 f91 f92 f93 f94 f95 f65 hfr hall hsz
            generalize t.getD 4 undef = z4
            generalize t.getD 6 undef = z6
            generalize t.getD 7 undef = z7
            generalize t.getD 8 undef = z8
            generalize t.getD 9 undef = z9
            generalize t.getD 23 undef = z23
            generalize t.getD 24 undef = z24
            generalize t.getD 25 undef = z25
            generalize t.getD 26 undef = z26
            generalize t.getD 27 undef = z27
            generalize t.getD 28 undef = z28
            generalize t.getD 29 undef = z29
            generalize t.getD 30 undef = z30
            generalize t.getD 31 undef = z31
            generalize t.getD 32 undef = z32
            generalize t.getD 33 undef = z33
            generalize t.getD 34 undef = z34
            generalize t.getD 35 undef = z35
            generalize t.getD 36 undef = z36
            generalize t.getD 37 undef = z37
            generalize t.getD 38 undef = z38
            generalize t.getD 39 undef = z39
            generalize t.getD 40 undef = z40
            generalize t.getD 41 undef = z41
            generalize t.getD 42 undef = z42
            generalize t.getD 43 undef = z43
            generalize t.getD 44 undef = z44
            generalize t.getD 45 undef = z45
            generalize t.getD 46 undef = z46
            generalize t.getD 47 undef = z47
            generalize t.getD 48 undef = z48
            generalize t.getD 49 undef = z49
            generalize t.getD 50 undef = z50
            generalize t.getD 51 undef = z51
            generalize t.getD 52 undef = z52
            generalize t.getD 53 undef = z53
            generalize t.getD 54 undef = z54
            generalize t.getD 55 undef = z55
            generalize t.getD 56 undef = z56
            generalize t.getD 57 undef = z57
            generalize t.getD 58 undef = z58
            generalize t.getD 59 undef = z59
            generalize t.getD 60 undef = z60
            generalize t.getD 61 undef = z61
            generalize t.getD 62 undef = z62
            generalize t.getD 63 undef = z63
            generalize t.getD 64 undef = z64
            have hb6 := Lib.hid (hb5.out.trans (below_pre (hT.mono hb5.out.size)))
            go_wp2_with fail
            go_roundw
            case rel => exact ⟨k + 1, by omega, by go_num, hb6⟩
            case measure => simp [intOf]; omega
        · have e : k = n := by omega
          have HE := Lib.hid e
          clear e
          have HA1 := Lib.hid (G1.out.below hb.out (Nat.le_refl _))
          have ht1 := Lib.hid (tab_below HT.out hb.out (Nat.le_refl _))
          have hlx : Hid (xs.length ≤ 100) := Lib.hid (by have := HLEN.out; omega)
          have hly : Hid (ys.length ≤ 100) := Lib.hid (by have := HLEM.out; omega)
          go_wp2_with fail
          refine (print_any wr _ xs ht1.out HA1.out hlx.out HN.out).mono ?_
          rintro e w2 ⟨rfl, hb2⟩
          have HA2 := Lib.hid (HA1.out.below hb2 (Nat.le_refl _))
          have hb3 := Lib.hid (hb.out.trans (hb2.mono hb.out.size))
          clear hb2
          rename_i K1 K2 hK2
          refine hK2 _ _ ?_
          clear hK2
          go_wp2_with fail
          refine (rprint_any w2 _ xs HA2.out hlx.out HN.out).mono ?_
          rintro e w3 ⟨rfl, hb4⟩
          have HA3 := Lib.hid (HA2.out.below hb4 (Nat.le_refl _))
          have hb5 := Lib.hid (hb3.out.trans (hb4.mono hb3.out.size))
          have HB3 := Lib.hid (G2.out.below hb5.out (Nat.le_refl _))
          clear hb4
          rename_i K1 K2 hK2
          refine hK2 _ _ ?_
          clear hK2
          go_wp2_with fail
          refine (esame_any w3 _ _ xs ys HA3.out HB3.out (by have := hlx.out; omega) (by have := hly.out; omega)).mono ?_
          rintro e w4 ⟨rfl, m4, rfl⟩
          rename_i K1 K2 hK2
          refine hK2 _ _ ?_
          clear hK2
          go_wp2_with fail
          refine (evsame_any _ _ _ xs ys (HA3.out.drewN m4) (HB3.out.drewN m4) (by have := hlx.out; omega) (by have := hly.out; omega)).mono ?_
          rintro e w5 ⟨rfl, m5, rfl⟩
          rename_i K1 K2 hK2
          refine hK2 _ _ ?_
          clear hK2
          have hb6 := Lib.hid (hb5.out.trans (below_drewN w.heap.size w3 (m4 + m5)))
          go_wp2_with fail
          refine (evalive_any _ (tab_below HT.out hb6.out (Nat.le_refl _))).mono ?_
          rintro e w6 ⟨rfl, hb7⟩
          rename_i K1 K2 hK2
          refine hK2 _ _ ?_
          clear hK2
          go_wp2_with fail
          go_ret
          exact ⟨rfl, hb6.out.trans (hb7.mono hb6.out.size)⟩
end Go.Proofs.YtfcoigcenheefaaDoor
