import Derived.Test.YtfcoigcenheefaaDoorPkREmit
import Derived.Test.YtfcoigcenheefaaDoorPkLight
import Derived.Test.YtfcoigcenheefaaDoorEvPrint
set_option linter.unusedVariables false
set_option linter.unusedSimpArgs false
namespace Go.Proofs.YtfcoigcenheefaaDoor
open Go.RowKit
def RFin (sl v0 u7 : Value) (g : Int) (F : List Ev) (E : List Int) : Nat → Value → World → Prop
  | 0, v, _ => v = sl
  | 1, v, _ => v = .int .i64 g
  | 2, v, w => EvsAt w v F
  | 3, v, _ => v = u7
  | 4, v, _ => v = .bool true
  | 5, v, _ => v = .bool true
  | 6, v, _ => v = .agg #[v0]
  | 7, v, _ => v = sl
  | 8, v, _ => v = .int .i64 g
  | 9, v, w => ListAt (Value.int .i64) 0 w v E
  | 10, v, _ => v = .agg #[v0]
  | 11, v, _ => v = sl
  | 12, v, _ => v = .int .i64 g
  | 13, v, w => ListAt (Value.int .i64) 0 w v E
  | 14, v, _ => v = .bool true
  | 15, v, _ => v = .bool true
  | 16, v, _ => v = .bool true
  | 17, v, _ => v = .bool true
  | 18, v, _ => v = .bool true
  | 19, v, _ => v = .bool true
  | _, _, _ => True
theorem rfin_stab {sl v0 u7 : Value} {g : Int} {F : List Ev} {E : List Int} {w w' : World} (hb : Below w.heap.size w w') : ∀ j u, RFin sl v0 u7 g F E j u w → RFin sl v0 u7 g F E j u w' := by
  intro j u h
  unfold RFin at h ⊢
  split at h
  case h_3 => exact EvsAt.below h hb (Nat.le_refl _)
  case h_10 => exact ListAt.below h hb (Nat.le_refl _)
  case h_14 => exact ListAt.below h hb (Nat.le_refl _)
  all_goals simp_all
theorem evsB_refl (l : List Ev) : evsB l l = true := by
  simp only [evsB, decide_true, Bool.true_and, sameEv, List.all_eq_true]
  intro i _
  exact (eqB_iff _ _).2 rfl
theorem listat_row {w : World} {base : Nat} {v : Value} {m : Nat} {xs : List Int} (h : w.ownsRow base 2 1 v m (xs.map (Value.int .i64))) : ListAt (Value.int .i64) 0 w v xs := by
  have hm : m = xs.length := by have := h.1; simp at this; omega
  subst hm
  exact ListAt.of_row h
theorem keep_yes {g : Int} {l : List Ev} {k : Nat} (hk : k < l.length) (h : keepE g (l.getD k default) = true) : (l.take (k + 1)).filter (keepE g) = (l.take k).filter (keepE g) ++ [l.getD k default] := by
  rw [take_succE hk, List.filter_append, filt1 h]
theorem keep_no {g : Int} {l : List Ev} {k : Nat} (hk : k < l.length) (h : keepE g (l.getD k default) = false) : (l.take (k + 1)).filter (keepE g) = (l.take k).filter (keepE g) := by
  rw [take_succE hk, List.filter_append, filt0 h, List.append_nil]
set_option maxRecDepth 100000 in
set_option maxHeartbeats 8000000 in
theorem eventPicks_any (w : World) (v0 v : Value) (p : List Fn) (l : List Ev) (g : Int) (hp : ProgAt w v0 p) (hpl : p.length ≤ maxLen) (hq : ∀ i, i < p.length → (p.getD i default).1.length ≤ maxLen ∧ (p.getD i default).2 ≤ maxLen) (h : EvsAt w v l) (hl : l.length ≤ maxLen) (htab : TabP w) :
    Calls Tryd.prog 7 #[.agg #[v0], v, .int .i64 g] w fun e w' => e = .returned (.bool true) ∧ Below w.heap.size w w' := by
  unfold maxLen at hl
  have hevs := h
  obtain ⟨a, c, rfl, h2⟩ := h
  obtain ⟨n, hn⟩ : ∃ n, n = l.length := ⟨_, rfl⟩
  rw [← hn] at hl hevs ⊢
  have HN := Lib.hid hn
  have H2 := Lib.hid h2
  have HEV := Lib.hid hevs
  have HP := Lib.hid hp
  have HPL := Lib.hid hpl
  have HQ := Lib.hid hq
  have HT := Lib.hid htab
  obtain ⟨a0, c0, rfl, _⟩ := hp
  generalize hv0 : Value.slice a0 p.length c0 = v0 at HP ⊢
  obtain ⟨wa, ha⟩ : ∃ wa, wa = (w.alloc (Obj.cells #[v0] 44)) := ⟨_, rfl⟩
  have hba : Below w.heap.size w wa := by rw [ha]; exact (Below.refl _ _).alloc (Nat.le_refl _) _
  have hsz : wa.heap.size = w.heap.size + 1 := by rw [ha]; simp
  have cb : wa.cell? ⟨w.heap.size, 0, none⟩ = some v0 := by rw [ha]; simp
  have HL := Lib.hid (light_any wa v0 p (HP.out.below hba (Nat.le_refl _)) hpl hq)
  have HA := Lib.hid ha
  have HBA0 := Lib.hid hba
  have HSZ := Lib.hid hsz
  clear hn h2 hevs hv0 hpl hq htab ha hba hsz
  obtain ⟨r, hr⟩ : ∃ r, lightB p = r := ⟨_, rfl⟩
  rw [hr] at HL
  have HR := Lib.hid hr
  clear hr
  cases r
  · go_enter Tryd.func7, Tryd.ntmps7
    go_upto_region 1 with fail
    rw [← HA.out]
    go_wp2_with fail
    refine HL.out.mono ?_
    rintro e w1 ⟨rfl, hb1⟩
    have HB1 := Lib.hid (HBA0.out.trans (hb1.mono HBA0.out.size))
    clear hb1
    rename_i K1 K2 hK2
    refine hK2 _ _ ?_
    clear hK2
    go_wp2_with fail
    refine (evalive_any w1 (tab_below HT.out HB1.out (Nat.le_refl _))).mono ?_
    rintro e w2 ⟨rfl, hb2⟩
    rename_i K1 K2 hK2
    refine hK2 _ _ ?_
    clear hK2
    go_wp2_with fail
    go_ret
    exact ⟨rfl, HB1.out.trans (hb2.mono HB1.out.size)⟩
  · have HLI := Lib.hid (light_all p HR.out)
    have HOP := Lib.hid (fun (wx : World) (x : Ev) (hb : Below w.heap.size w wx) => op_any wx v0 p x (HP.out.below hb (Nat.le_refl _)) (by have := HLI.out.1; omega) (fun i hi => by have := HLI.out.2 i hi; omega))
    have HRO := Lib.hid (fun (wx : World) (x : Ev) (hb : Below w.heap.size w wx) => rop_any wx v0 p x (HP.out.below hb (Nat.le_refl _)) (by have := HLI.out.1; omega) (fun i hi => by have := HLI.out.2 i hi; omega))
    by_cases h100 : 100 < n
    · have h100' : (100 : Int) < n := by omega
      go_enter Tryd.func7, Tryd.ntmps7
      go_upto_region 1 with fail
      rw [← HA.out]
      go_wp2_with fail
      refine HL.out.mono ?_
      rintro e w1 ⟨rfl, hb1⟩
      have HB1 := Lib.hid (HBA0.out.trans (hb1.mono HBA0.out.size))
      clear hb1
      rename_i K1 K2 hK2
      refine hK2 _ _ ?_
      clear hK2
      go_wp2_with fail
      refine (evalive_any w1 (tab_below HT.out HB1.out (Nat.le_refl _))).mono ?_
      rintro e w2 ⟨rfl, hb2⟩
      rename_i K1 K2 hK2
      refine hK2 _ _ ?_
      clear hK2
      go_wp2_with fail
      go_ret
      exact ⟨rfl, HB1.out.trans (hb2.mono HB1.out.size)⟩
    · have h100' : (n : Int) ≤ 100 := by omega
      obtain ⟨i0, hi, hz0, hz1, hz2⟩ := info_parts info38
      go_enter Tryd.func7, Tryd.ntmps7
      go_upto_region 1 with fail
      rw [← HA.out]
      go_wp2_with fail
      refine HL.out.mono ?_
      rintro e w1 ⟨rfl, hb1⟩
      have HBA := Lib.hid (HBA0.out.trans (hb1.mono HBA0.out.size))
      have HCB := Lib.hid (below_cell hb1 (Nat.le_refl _) cb)
      have HS1 : Hid (w.heap.size + 1 ≤ w1.heap.size) := Lib.hid (by have := hb1.size; have := HSZ.out; omega)
      clear hb1 cb HL HA HSZ HBA0
      rename_i K1 K2 hK2
      refine hK2 _ _ ?_
      clear hK2
      go_wp2_with fail
      go_loopw [7, 8] (fun s7 s8 wr => ∃ (k m : Nat), k ≤ n ∧ s8 = .int .i64 k ∧ m ≤ k ∧ wr.ownsRow w1.heap.size 38 5 s7 m (flatE ((l.take k).filter (keepE g))) ∧ Hid (Below w1.heap.size w1 wr)) (fun _ s8 _ => n - (intOf s8).toNat)
      case atStart => exact ⟨0, 0, Nat.zero_le _, rfl, Nat.zero_le _, by simp [flatE]; exact ⟨rfl, .inl ⟨rfl, rfl⟩⟩, Lib.hid (Below.refl _ _)⟩
      case round =>
        obtain ⟨k, m, hk, rfl, hmk, hown, hb⟩ := hrel
        have hz1' := hb.out.size
        by_cases hlt : k < n
        · have hkl : k < l.length := by have := HN.out; omega
          obtain ⟨b1, o1, rfl, q1⟩ := H2.out (by omega)
          have hbw : Below w.heap.size w wr := HBA.out.trans (hb.out.mono HBA.out.size)
          have dw := q1 k hkl
          have d0 := dw.below hbw (Nat.le_refl _)
          clear q1
          have HY := Lib.hid (fun h => keep_yes (g := g) hkl h)
          have HNO := Lib.hid (fun h => keep_no (g := g) hkl h)
          obtain ⟨x, hx0⟩ : ∃ x, x = l.getD k default := ⟨_, rfl⟩
          rw [← hx0] at d0 dw HY HNO
          clear hx0
          obtain ⟨x1, x2, x3, x4, x5⟩ := x
          have HDW := Lib.hid dw
          clear dw
          obtain ⟨p0, p1, p2, p3, p4⟩ := d0
          have k0 : (0 : Int) ≤ (k : Int) := by omega
          have k1 : (k : Int) < (n : Int) := by omega
          clear hbw
          by_cases hxg : x2 = g
          · have hxg2 : (x2 == g) = true := by simpa using hxg
            have HFL0 := Lib.hid (HY.out (by simp [keepE, hxg]))
            clear hxg
            go_upto_region 9 with (at_builtin; refine wpList_app wr 38 [.int .i64 x1, .int .i64 x2, .int .i64 x3, .int .i64 x4, .int .i64 x5] rfl _ _ 22 rfl w1.heap.size (.agg #[.int .i64 0, .int .i64 0, .int .i64 0, .int .i64 0, .int .i64 0]) 5 40 Tryd.underlying22 info38 rfl (by decide) _ _ _ rfl hown _ rfl (by simp) rfl rfl (by omega) (by omega) hz1' w1.heap.size w1 hb.out (Nat.le_refl _) ?_; intro gg cap wr9 hown9 hb9 hgr9 _)
            have HFL : Hid (flatE ((l.take (k + 1)).filter (keepE g)) = flatE ((l.take k).filter (keepE g)) ++ [.int .i64 x1, .int .i64 x2, .int .i64 x3, .int .i64 x4, .int .i64 x5]) := Lib.hid (by rw [HFL0.out, flatE_app]; simp [flatE, evC])
            have hw9 : Below w.heap.size w wr9 := HBA.out.trans (hb9.mono HBA.out.size)
            have d0 : EvAt w b1 (o1 + k * 5) ⟨x1, x2, x3, x4, x5⟩ := HDW.out
            clear p0 p1 p2 p3 p4 hgr9 hown
            have HD9 : Hid (EvAt wr9.drew b1 (o1 + k * 5) ⟨x1, x2, x3, x4, x5⟩) := Lib.hid ((d0.below hw9 (Nat.le_refl _)).below (below_drewN wr9.heap.size wr9 1) (Nat.le_refl _))
            have HCW9 : Hid (wr9.drew.cell? ⟨w.heap.size, 0, none⟩ = some v0) := Lib.hid (below_cell hb9 (Nat.le_refl _) HCB.out)
            have HB9 := Lib.hid hb9
            have HOW9 := Lib.hid hown9
            have HB90 : Hid (Below w.heap.size w wr9) := Lib.hid (HBA.out.trans (hb9.mono HBA.out.size))
            clear hb9 hown9 hw9
            refine wp_region_inv (by kernel_rfl) 70 rfl (by kernel_rfl) (fun x y => Below wr9.drew.heap.size x y) (RVals [.agg #[v0], .slice (some ⟨b1, o1, none⟩) n c, .int .i64 k, .pointer (some ⟨b1, o1 + k * 5, none⟩), .agg #[.int .i64 x1, .int .i64 x2, .int .i64 x3, .int .i64 x4, .int .i64 x5], .int .i64 (opAt p x3 x4), .agg #[v0], .slice (some ⟨b1, o1, none⟩) n c, .int .i64 k, .pointer (some ⟨b1, o1 + k * 5, none⟩), .agg #[.int .i64 x1, .int .i64 x2, .int .i64 x3, .int .i64 x4, .int .i64 x5], .int .i64 (opAt p x3 x4), .bool false]) (Below.refl _ _) ?_ ?_
            · refine ⟨?_, ?_, ?_, ?_, ?_, ?_, ?_, ?_, ?_, ?_, ?_, ?_, ?_, trivial⟩
              · rintro ⟨t, ds⟩ w' hd hfr hT hdep K hK
                obtain rfl : ds = [] := hd
                have pb := below_cell hT (Nat.le_refl _) HCW9.out
                have hv9 := hfr 3 rfl
                change t.getD 3 undef = .pointer (some ⟨w.heap.size, 0, none⟩) at hv9
                go_simp
                exact hK _ _ hT (fun _ _ h => h) rfl
              · rintro ⟨t, ds⟩ w' hd hfr hT hdep K hK
                obtain rfl : ds = [] := hd
                have hv0 := hfr 1 rfl
                change t.getD 1 undef = .slice (some ⟨b1, o1, none⟩) n c at hv0
                go_simp
                exact hK _ _ hT (fun _ _ h => h) rfl
              · rintro ⟨t, ds⟩ w' hd hfr hT hdep K hK
                obtain rfl : ds = [] := hd
                have hv0 := hfr 8 rfl
                change t.getD 8 undef = .int .i64 k at hv0
                go_simp
                exact hK _ _ hT (fun _ _ h => h) rfl
              · rintro ⟨t, ds⟩ w' hd hfr hT hdep K hK
                obtain rfl : ds = [] := hd
                have hv0 := hdep ⟨1, .data⟩ (by simp) rfl _ rfl
                change t.getD 39 undef = .slice (some ⟨b1, o1, none⟩) n c at hv0
                have hv1 := hdep ⟨2, .data⟩ (by simp) rfl _ rfl
                change t.getD 40 undef = .int .i64 k at hv1
                go_simp
                exact hK _ _ hT (fun _ _ h => h) rfl
              · rintro ⟨t, ds⟩ w' hd hfr hT hdep K hK
                obtain rfl : ds = [] := hd
                have hv0 := hdep ⟨3, .data⟩ (by simp) rfl _ rfl
                change t.getD 41 undef = .pointer (some ⟨b1, o1 + k * 5, none⟩) at hv0
                obtain ⟨p0, p1, p2, p3, p4⟩ := HD9.out.below hT (Nat.le_refl _)
                go_simp
                exact hK _ _ hT (fun _ _ h => h) rfl
              · rintro ⟨t, ds⟩ w' hd hfr hT hdep K hK
                obtain rfl : ds = [] := hd
                have hv0 := hdep ⟨0, .data⟩ (by simp) rfl _ rfl
                change t.getD 38 undef = .agg #[v0] at hv0
                have hv1 := hdep ⟨4, .data⟩ (by simp) rfl _ rfl
                change t.getD 42 undef = .agg #[.int .i64 x1, .int .i64 x2, .int .i64 x3, .int .i64 x4, .int .i64 x5] at hv1
                go_simp
                refine (HOP.out w' ⟨x1, x2, x3, x4, x5⟩ (HB90.out.trans (below_pre (hT.mono HB90.out.size)))).mono ?_
                rintro e wq ⟨rfl, hbq⟩
                exact hK _ _ (hT.trans (hbq.mono hT.size)) (fun _ _ h => h) rfl
              · rintro ⟨t, ds⟩ w' hd hfr hT hdep K hK
                obtain rfl : ds = [] := hd
                have pb := below_cell hT (Nat.le_refl _) HCW9.out
                have hv9 := hfr 3 rfl
                change t.getD 3 undef = .pointer (some ⟨w.heap.size, 0, none⟩) at hv9
                go_simp
                exact hK _ _ hT (fun _ _ h => h) rfl
              · rintro ⟨t, ds⟩ w' hd hfr hT hdep K hK
                obtain rfl : ds = [] := hd
                have hv0 := hfr 1 rfl
                change t.getD 1 undef = .slice (some ⟨b1, o1, none⟩) n c at hv0
                go_simp
                exact hK _ _ hT (fun _ _ h => h) rfl
              · rintro ⟨t, ds⟩ w' hd hfr hT hdep K hK
                obtain rfl : ds = [] := hd
                have hv0 := hfr 8 rfl
                change t.getD 8 undef = .int .i64 k at hv0
                go_simp
                exact hK _ _ hT (fun _ _ h => h) rfl
              · rintro ⟨t, ds⟩ w' hd hfr hT hdep K hK
                obtain rfl : ds = [] := hd
                have hv0 := hdep ⟨7, .data⟩ (by simp) rfl _ rfl
                change t.getD 45 undef = .slice (some ⟨b1, o1, none⟩) n c at hv0
                have hv1 := hdep ⟨8, .data⟩ (by simp) rfl _ rfl
                change t.getD 46 undef = .int .i64 k at hv1
                go_simp
                exact hK _ _ hT (fun _ _ h => h) rfl
              · rintro ⟨t, ds⟩ w' hd hfr hT hdep K hK
                obtain rfl : ds = [] := hd
                have hv0 := hdep ⟨9, .data⟩ (by simp) rfl _ rfl
                change t.getD 47 undef = .pointer (some ⟨b1, o1 + k * 5, none⟩) at hv0
                obtain ⟨p0, p1, p2, p3, p4⟩ := HD9.out.below hT (Nat.le_refl _)
                go_simp
                exact hK _ _ hT (fun _ _ h => h) rfl
              · rintro ⟨t, ds⟩ w' hd hfr hT hdep K hK
                obtain rfl : ds = [] := hd
                have hv0 := hdep ⟨6, .data⟩ (by simp) rfl _ rfl
                change t.getD 44 undef = .agg #[v0] at hv0
                have hv1 := hdep ⟨10, .data⟩ (by simp) rfl _ rfl
                change t.getD 48 undef = .agg #[.int .i64 x1, .int .i64 x2, .int .i64 x3, .int .i64 x4, .int .i64 x5] at hv1
                go_simp
                refine (HRO.out w' ⟨x1, x2, x3, x4, x5⟩ (HB90.out.trans (below_pre (hT.mono HB90.out.size)))).mono ?_
                rintro e wq ⟨rfl, hbq⟩
                exact hK _ _ (hT.trans (hbq.mono hT.size)) (fun _ _ h => h) rfl
              · rintro ⟨t, ds⟩ w' hd hfr hT hdep K hK
                obtain rfl : ds = [] := hd
                have hv0 := hdep ⟨5, .data⟩ (by simp) rfl _ rfl
                change t.getD 43 undef = .int .i64 (opAt p x3 x4) at hv0
                have hv1 := hdep ⟨11, .data⟩ (by simp) rfl _ rfl
                change t.getD 49 undef = .int .i64 (opAt p x3 x4) at hv1
                go_simp
                exact hK _ _ hT (fun _ _ h => h) rfl
            · rename_i Kc hKc
              rintro ⟨t, ds⟩ w' hd hsz hfr hT hall
              refine hKc _ _ ?_
              clear hKc Kc
              obtain rfl : ds = [] := hd
              have ht := tmps_lit t 70 hsz
              have f0 : t.getD 0 undef = .agg #[v0] := hfr 0 rfl
              have f1 : t.getD 1 undef = .slice (some ⟨b1, o1, none⟩) n c := hfr 1 rfl
              have f2 : t.getD 2 undef = .int .i64 g := hfr 2 rfl
              have f3 : t.getD 3 undef = .pointer (some ⟨w.heap.size, 0, none⟩) := hfr 3 rfl
              have f4 : t.getD 4 undef = undef := hfr 4 rfl
              have f5 : t.getD 5 undef = undef := hfr 5 rfl
              have f7 : t.getD 7 undef = .slice (some ⟨gg, 0, none⟩) (m + 1) cap := hfr 7 rfl
              have f8 : t.getD 8 undef = .int .i64 k := hfr 8 rfl
              have f9 : t.getD 9 undef = .agg #[v0] := hfr 9 rfl
              have f10 : t.getD 10 undef = .bool true := hfr 10 rfl
              have f11 : t.getD 11 undef = .bool false := hfr 11 rfl
              have f12 : t.getD 12 undef = .bool false := hfr 12 rfl
              have f13 : t.getD 13 undef = .slice (some ⟨b1, o1, none⟩) n c := hfr 13 rfl
              have f14 : t.getD 14 undef = .int .i64 n := hfr 14 rfl
              have f15 : t.getD 15 undef = .bool (decide ((100 : Int) < n)) := hfr 15 rfl
              have f16 : t.getD 16 undef = .bool (decide ((100 : Int) < n)) := hfr 16 rfl
              have f17 : t.getD 17 undef = undef := hfr 17 rfl
              have f51 : t.getD 51 undef = undef := hfr 51 rfl
              have f52 : t.getD 52 undef = undef := hfr 52 rfl
              have f53 : t.getD 53 undef = undef := hfr 53 rfl
              have f54 : t.getD 54 undef = undef := hfr 54 rfl
              have f55 : t.getD 55 undef = undef := hfr 55 rfl
              have f56 : t.getD 56 undef = undef := hfr 56 rfl
              have f57 : t.getD 57 undef = undef := hfr 57 rfl
              have f58 : t.getD 58 undef = undef := hfr 58 rfl
              have f59 : t.getD 59 undef = undef := hfr 59 rfl
              have f60 : t.getD 60 undef = undef := hfr 60 rfl
              have f61 : t.getD 61 undef = undef := hfr 61 rfl
              have f62 : t.getD 62 undef = undef := hfr 62 rfl
              have f63 : t.getD 63 undef = undef := hfr 63 rfl
              have f64 : t.getD 64 undef = undef := hfr 64 rfl
              have f65 : t.getD 65 undef = undef := hfr 65 rfl
              have f66 : t.getD 66 undef = undef := hfr 66 rfl
              have f67 : t.getD 67 undef = undef := hfr 67 rfl
              have f68 : t.getD 68 undef = undef := hfr 68 rfl
              have f69 : t.getD 69 undef = undef := hfr 69 rfl
              have f50 : t.getD 50 undef = .bool false := hall 12 _ rfl
              simp only [f0, f1, f2, f3, f4, f5, f7, f8, f9, f10, f11, f12, f13, f14, f15, f16, f17, f51, f52, f53, f54, f55, f56, f57, f58, f59, f60, f61, f62, f63, f64, f65, f66, f67, f68, f69, f50, List.range, List.range.loop, List.map] at ht
              rw [ht]
              have HTT := Lib.hid hT
              clear ht f0 f1 f2 f3 f4 f5 f7 f8 f9 f10 f11 f12 f13 f14 f15 f16 f17 f51 f52 f53 f54 f55 f56 f57 f58 f59 f60 f61 f62 f63 f64 f65 f66 f67 f68 f69 f50 hfr hall hsz hT
              generalize t.getD 6 undef = z6
              generalize t.getD 18 undef = z18
              generalize t.getD 19 undef = z19
              generalize t.getD 20 undef = z20
              generalize t.getD 21 undef = z21
              generalize t.getD 22 undef = z22
              generalize t.getD 23 undef = z23
              generalize t.getD 24 undef = z24
              generalize t.getD 25 undef = z25
              generalize t.getD 26 undef = z26
              generalize t.getD 27 undef = z27
              generalize t.getD 28 undef = z28
              generalize t.getD 29 undef = z29
              generalize t.getD 30 undef = z30
              generalize t.getD 31 undef = z31
              generalize t.getD 32 undef = z32
              generalize t.getD 33 undef = z33
              generalize t.getD 34 undef = z34
              generalize t.getD 35 undef = z35
              generalize t.getD 36 undef = z36
              generalize t.getD 37 undef = z37
              generalize t.getD 38 undef = z38
              generalize t.getD 39 undef = z39
              generalize t.getD 40 undef = z40
              generalize t.getD 41 undef = z41
              generalize t.getD 42 undef = z42
              generalize t.getD 43 undef = z43
              generalize t.getD 44 undef = z44
              generalize t.getD 45 undef = z45
              generalize t.getD 46 undef = z46
              generalize t.getD 47 undef = z47
              generalize t.getD 48 undef = z48
              generalize t.getD 49 undef = z49
              have HOWZ := Lib.hid (row_below HOW9.out (below_pre HTT.out) (Nat.le_refl _))
              have HBZ := Lib.hid (HB9.out.trans (below_pre (HTT.out.mono HB9.out.size)))
              go_wp2_with fail
              go_roundw
              case rel => exact ⟨k + 1, m + 1, by omega, by go_num, by omega, by rw [HFL.out]; exact HOWZ.out, HBZ⟩
              case measure => simp [intOf]; omega
          · have hxg2 : (x2 == g) = false := by simpa using hxg
            have HFL0 := Lib.hid (HNO.out (by simp [keepE, hxg]))
            clear hxg
            go_upto_region 9 with fail
            obtain ⟨wr9, hwr9⟩ : ∃ wr9, wr9 = wr := ⟨_, rfl⟩
            rw [← hwr9] at hown ⊢
            have hb9 : Below w1.heap.size w1 wr9 := by rw [hwr9]; exact hb.out
            have hown9 := hown
            have HFL : Hid (flatE ((l.take (k + 1)).filter (keepE g)) = flatE ((l.take k).filter (keepE g))) := Lib.hid (by rw [HFL0.out])
            have hw9 : Below w.heap.size w wr9 := HBA.out.trans (hb9.mono HBA.out.size)
            have d0 : EvAt w b1 (o1 + k * 5) ⟨x1, x2, x3, x4, x5⟩ := HDW.out
            clear p0 p1 p2 p3 p4 hown hwr9
            have HD9 : Hid (EvAt wr9.drew b1 (o1 + k * 5) ⟨x1, x2, x3, x4, x5⟩) := Lib.hid ((d0.below hw9 (Nat.le_refl _)).below (below_drewN wr9.heap.size wr9 1) (Nat.le_refl _))
            have HCW9 : Hid (wr9.drew.cell? ⟨w.heap.size, 0, none⟩ = some v0) := Lib.hid (below_cell hb9 (Nat.le_refl _) HCB.out)
            have HB9 := Lib.hid hb9
            have HOW9 := Lib.hid hown9
            have HB90 : Hid (Below w.heap.size w wr9) := Lib.hid (HBA.out.trans (hb9.mono HBA.out.size))
            clear hb9 hown9 hw9
            refine wp_region_inv (by kernel_rfl) 70 rfl (by kernel_rfl) (fun x y => Below wr9.drew.heap.size x y) (RVals [.agg #[v0], .slice (some ⟨b1, o1, none⟩) n c, .int .i64 k, .pointer (some ⟨b1, o1 + k * 5, none⟩), .agg #[.int .i64 x1, .int .i64 x2, .int .i64 x3, .int .i64 x4, .int .i64 x5], .int .i64 (opAt p x3 x4), .agg #[v0], .slice (some ⟨b1, o1, none⟩) n c, .int .i64 k, .pointer (some ⟨b1, o1 + k * 5, none⟩), .agg #[.int .i64 x1, .int .i64 x2, .int .i64 x3, .int .i64 x4, .int .i64 x5], .int .i64 (opAt p x3 x4), .bool false]) (Below.refl _ _) ?_ ?_
            · refine ⟨?_, ?_, ?_, ?_, ?_, ?_, ?_, ?_, ?_, ?_, ?_, ?_, ?_, trivial⟩
              · rintro ⟨t, ds⟩ w' hd hfr hT hdep K hK
                obtain rfl : ds = [] := hd
                have pb := below_cell hT (Nat.le_refl _) HCW9.out
                have hv9 := hfr 3 rfl
                change t.getD 3 undef = .pointer (some ⟨w.heap.size, 0, none⟩) at hv9
                go_simp
                exact hK _ _ hT (fun _ _ h => h) rfl
              · rintro ⟨t, ds⟩ w' hd hfr hT hdep K hK
                obtain rfl : ds = [] := hd
                have hv0 := hfr 1 rfl
                change t.getD 1 undef = .slice (some ⟨b1, o1, none⟩) n c at hv0
                go_simp
                exact hK _ _ hT (fun _ _ h => h) rfl
              · rintro ⟨t, ds⟩ w' hd hfr hT hdep K hK
                obtain rfl : ds = [] := hd
                have hv0 := hfr 8 rfl
                change t.getD 8 undef = .int .i64 k at hv0
                go_simp
                exact hK _ _ hT (fun _ _ h => h) rfl
              · rintro ⟨t, ds⟩ w' hd hfr hT hdep K hK
                obtain rfl : ds = [] := hd
                have hv0 := hdep ⟨1, .data⟩ (by simp) rfl _ rfl
                change t.getD 39 undef = .slice (some ⟨b1, o1, none⟩) n c at hv0
                have hv1 := hdep ⟨2, .data⟩ (by simp) rfl _ rfl
                change t.getD 40 undef = .int .i64 k at hv1
                go_simp
                exact hK _ _ hT (fun _ _ h => h) rfl
              · rintro ⟨t, ds⟩ w' hd hfr hT hdep K hK
                obtain rfl : ds = [] := hd
                have hv0 := hdep ⟨3, .data⟩ (by simp) rfl _ rfl
                change t.getD 41 undef = .pointer (some ⟨b1, o1 + k * 5, none⟩) at hv0
                obtain ⟨p0, p1, p2, p3, p4⟩ := HD9.out.below hT (Nat.le_refl _)
                go_simp
                exact hK _ _ hT (fun _ _ h => h) rfl
              · rintro ⟨t, ds⟩ w' hd hfr hT hdep K hK
                obtain rfl : ds = [] := hd
                have hv0 := hdep ⟨0, .data⟩ (by simp) rfl _ rfl
                change t.getD 38 undef = .agg #[v0] at hv0
                have hv1 := hdep ⟨4, .data⟩ (by simp) rfl _ rfl
                change t.getD 42 undef = .agg #[.int .i64 x1, .int .i64 x2, .int .i64 x3, .int .i64 x4, .int .i64 x5] at hv1
                go_simp
                refine (HOP.out w' ⟨x1, x2, x3, x4, x5⟩ (HB90.out.trans (below_pre (hT.mono HB90.out.size)))).mono ?_
                rintro e wq ⟨rfl, hbq⟩
                exact hK _ _ (hT.trans (hbq.mono hT.size)) (fun _ _ h => h) rfl
              · rintro ⟨t, ds⟩ w' hd hfr hT hdep K hK
                obtain rfl : ds = [] := hd
                have pb := below_cell hT (Nat.le_refl _) HCW9.out
                have hv9 := hfr 3 rfl
                change t.getD 3 undef = .pointer (some ⟨w.heap.size, 0, none⟩) at hv9
                go_simp
                exact hK _ _ hT (fun _ _ h => h) rfl
              · rintro ⟨t, ds⟩ w' hd hfr hT hdep K hK
                obtain rfl : ds = [] := hd
                have hv0 := hfr 1 rfl
                change t.getD 1 undef = .slice (some ⟨b1, o1, none⟩) n c at hv0
                go_simp
                exact hK _ _ hT (fun _ _ h => h) rfl
              · rintro ⟨t, ds⟩ w' hd hfr hT hdep K hK
                obtain rfl : ds = [] := hd
                have hv0 := hfr 8 rfl
                change t.getD 8 undef = .int .i64 k at hv0
                go_simp
                exact hK _ _ hT (fun _ _ h => h) rfl
              · rintro ⟨t, ds⟩ w' hd hfr hT hdep K hK
                obtain rfl : ds = [] := hd
                have hv0 := hdep ⟨7, .data⟩ (by simp) rfl _ rfl
                change t.getD 45 undef = .slice (some ⟨b1, o1, none⟩) n c at hv0
                have hv1 := hdep ⟨8, .data⟩ (by simp) rfl _ rfl
                change t.getD 46 undef = .int .i64 k at hv1
                go_simp
                exact hK _ _ hT (fun _ _ h => h) rfl
              · rintro ⟨t, ds⟩ w' hd hfr hT hdep K hK
                obtain rfl : ds = [] := hd
                have hv0 := hdep ⟨9, .data⟩ (by simp) rfl _ rfl
                change t.getD 47 undef = .pointer (some ⟨b1, o1 + k * 5, none⟩) at hv0
                obtain ⟨p0, p1, p2, p3, p4⟩ := HD9.out.below hT (Nat.le_refl _)
                go_simp
                exact hK _ _ hT (fun _ _ h => h) rfl
              · rintro ⟨t, ds⟩ w' hd hfr hT hdep K hK
                obtain rfl : ds = [] := hd
                have hv0 := hdep ⟨6, .data⟩ (by simp) rfl _ rfl
                change t.getD 44 undef = .agg #[v0] at hv0
                have hv1 := hdep ⟨10, .data⟩ (by simp) rfl _ rfl
                change t.getD 48 undef = .agg #[.int .i64 x1, .int .i64 x2, .int .i64 x3, .int .i64 x4, .int .i64 x5] at hv1
                go_simp
                refine (HRO.out w' ⟨x1, x2, x3, x4, x5⟩ (HB90.out.trans (below_pre (hT.mono HB90.out.size)))).mono ?_
                rintro e wq ⟨rfl, hbq⟩
                exact hK _ _ (hT.trans (hbq.mono hT.size)) (fun _ _ h => h) rfl
              · rintro ⟨t, ds⟩ w' hd hfr hT hdep K hK
                obtain rfl : ds = [] := hd
                have hv0 := hdep ⟨5, .data⟩ (by simp) rfl _ rfl
                change t.getD 43 undef = .int .i64 (opAt p x3 x4) at hv0
                have hv1 := hdep ⟨11, .data⟩ (by simp) rfl _ rfl
                change t.getD 49 undef = .int .i64 (opAt p x3 x4) at hv1
                go_simp
                exact hK _ _ hT (fun _ _ h => h) rfl
            · rename_i Kc hKc
              rintro ⟨t, ds⟩ w' hd hsz hfr hT hall
              refine hKc _ _ ?_
              clear hKc Kc
              obtain rfl : ds = [] := hd
              have ht := tmps_lit t 70 hsz
              have f0 : t.getD 0 undef = .agg #[v0] := hfr 0 rfl
              have f1 : t.getD 1 undef = .slice (some ⟨b1, o1, none⟩) n c := hfr 1 rfl
              have f2 : t.getD 2 undef = .int .i64 g := hfr 2 rfl
              have f3 : t.getD 3 undef = .pointer (some ⟨w.heap.size, 0, none⟩) := hfr 3 rfl
              have f4 : t.getD 4 undef = undef := hfr 4 rfl
              have f5 : t.getD 5 undef = undef := hfr 5 rfl
              have f7 : t.getD 7 undef = u7 := hfr 7 rfl
              have f8 : t.getD 8 undef = .int .i64 k := hfr 8 rfl
              have f9 : t.getD 9 undef = .agg #[v0] := hfr 9 rfl
              have f10 : t.getD 10 undef = .bool true := hfr 10 rfl
              have f11 : t.getD 11 undef = .bool false := hfr 11 rfl
              have f12 : t.getD 12 undef = .bool false := hfr 12 rfl
              have f13 : t.getD 13 undef = .slice (some ⟨b1, o1, none⟩) n c := hfr 13 rfl
              have f14 : t.getD 14 undef = .int .i64 n := hfr 14 rfl
              have f15 : t.getD 15 undef = .bool (decide ((100 : Int) < n)) := hfr 15 rfl
              have f16 : t.getD 16 undef = .bool (decide ((100 : Int) < n)) := hfr 16 rfl
              have f17 : t.getD 17 undef = undef := hfr 17 rfl
              have f51 : t.getD 51 undef = undef := hfr 51 rfl
              have f52 : t.getD 52 undef = undef := hfr 52 rfl
              have f53 : t.getD 53 undef = undef := hfr 53 rfl
              have f54 : t.getD 54 undef = undef := hfr 54 rfl
              have f55 : t.getD 55 undef = undef := hfr 55 rfl
              have f56 : t.getD 56 undef = undef := hfr 56 rfl
              have f57 : t.getD 57 undef = undef := hfr 57 rfl
              have f58 : t.getD 58 undef = undef := hfr 58 rfl
              have f59 : t.getD 59 undef = undef := hfr 59 rfl
              have f60 : t.getD 60 undef = undef := hfr 60 rfl
              have f61 : t.getD 61 undef = undef := hfr 61 rfl
              have f62 : t.getD 62 undef = undef := hfr 62 rfl
              have f63 : t.getD 63 undef = undef := hfr 63 rfl
              have f64 : t.getD 64 undef = undef := hfr 64 rfl
              have f65 : t.getD 65 undef = undef := hfr 65 rfl
              have f66 : t.getD 66 undef = undef := hfr 66 rfl
              have f67 : t.getD 67 undef = undef := hfr 67 rfl
              have f68 : t.getD 68 undef = undef := hfr 68 rfl
              have f69 : t.getD 69 undef = undef := hfr 69 rfl
              have f50 : t.getD 50 undef = .bool false := hall 12 _ rfl
              simp only [f0, f1, f2, f3, f4, f5, f7, f8, f9, f10, f11, f12, f13, f14, f15, f16, f17, f51, f52, f53, f54, f55, f56, f57, f58, f59, f60, f61, f62, f63, f64, f65, f66, f67, f68, f69, f50, List.range, List.range.loop, List.map] at ht
              rw [ht]
              have HTT := Lib.hid hT
              clear ht f0 f1 f2 f3 f4 f5 f7 f8 f9 f10 f11 f12 f13 f14 f15 f16 f17 f51 f52 f53 f54 f55 f56 f57 f58 f59 f60 f61 f62 f63 f64 f65 f66 f67 f68 f69 f50 hfr hall hsz hT
              generalize t.getD 6 undef = z6
              generalize t.getD 18 undef = z18
              generalize t.getD 19 undef = z19
              generalize t.getD 20 undef = z20
              generalize t.getD 21 undef = z21
              generalize t.getD 22 undef = z22
              generalize t.getD 23 undef = z23
              generalize t.getD 24 undef = z24
              generalize t.getD 25 undef = z25
              generalize t.getD 26 undef = z26
              generalize t.getD 27 undef = z27
              generalize t.getD 28 undef = z28
              generalize t.getD 29 undef = z29
              generalize t.getD 30 undef = z30
              generalize t.getD 31 undef = z31
              generalize t.getD 32 undef = z32
              generalize t.getD 33 undef = z33
              generalize t.getD 34 undef = z34
              generalize t.getD 35 undef = z35
              generalize t.getD 36 undef = z36
              generalize t.getD 37 undef = z37
              generalize t.getD 38 undef = z38
              generalize t.getD 39 undef = z39
              generalize t.getD 40 undef = z40
              generalize t.getD 41 undef = z41
              generalize t.getD 42 undef = z42
              generalize t.getD 43 undef = z43
              generalize t.getD 44 undef = z44
              generalize t.getD 45 undef = z45
              generalize t.getD 46 undef = z46
              generalize t.getD 47 undef = z47
              generalize t.getD 48 undef = z48
              generalize t.getD 49 undef = z49
              have HOWZ := Lib.hid (row_below HOW9.out (below_pre HTT.out) (Nat.le_refl _))
              have HBZ := Lib.hid (HB9.out.trans (below_pre (HTT.out.mono HB9.out.size)))
              go_wp2_with fail
              go_roundw
              case rel => exact ⟨k + 1, m, by omega, by go_num, by omega, by rw [HFL.out]; exact HOWZ.out, HBZ⟩
              case measure => simp [intOf]; omega
        · have e : k = n := by omega
          have HE := Lib.hid e
          have HOWN := Lib.hid hown
          clear e hown
          go_upto_region 11 with fail
          have HOV : Hid (EvsAt wr u7 (l.filter (keepE g))) := Lib.hid (by
            have h1 := HOWN.out
            have e1 : l.take k = l := by rw [HE.out, HN.out]; simp
            rw [e1] at h1
            exact evs_of_row h1 (by have := h1.1; rw [flatE_len] at this; omega))
          have HLN : Hid (l.length ≤ 1000) := Lib.hid (by have := HN.out; omega)
          have HFN0 : (l.filter (keepE g)).length ≤ 1000000 := Nat.le_trans (List.length_filter_le _ _) (by have := HLN.out; omega)
          have HEN0 : (emL p g l).length ≤ 1000000 := Nat.le_trans (emL_len p g l) (by have := HLN.out; omega)
          have HFN := Lib.hid HFN0
          have HEN := Lib.hid HEN0
          have HPN : Hid (p.length ≤ 1000) := Lib.hid (by have := HLI.out.1; omega)
          have HPC : Hid (∀ i, i < p.length → (p.getD i default).1.length ≤ 1000) := Lib.hid (fun i hi => by have := HLI.out.2 i hi; omega)
          have HB0 : Hid (Below w.heap.size w wr) := Lib.hid (HBA.out.trans (hb.out.mono HBA.out.size))
          have HCW : Hid (wr.drew.cell? ⟨w.heap.size, 0, none⟩ = some v0) := Lib.hid (below_cell hb.out (Nat.le_refl _) HCB.out)
          clear HFN0 HEN0
          generalize hF : l.filter (keepE g) = F at HOV HFN
          generalize hE : emL p g l = E at HEN
          refine wp_region_inv (by kernel_rfl) 70 rfl (by kernel_rfl) (fun x y => Below wr.drew.heap.size x y) (RFin (.slice a n c) v0 u7 g F E) (Below.refl _ _) ?_ ?_
          · refine ⟨?_, ?_, ?_, ?_, ?_, ?_, ?_, ?_, ?_, ?_, ?_, ?_, ?_, ?_, ?_, ?_, ?_, ?_, ?_, ?_, trivial⟩
            · rintro ⟨t, ds⟩ w' hd hfr hT hdep K hK
              obtain rfl : ds = [] := hd
              have hv0 := hfr 1 rfl
              change t.getD 1 undef = .slice a n c at hv0
              go_simp
              exact hK _ _ hT (fun _ _ h => h) rfl
            · rintro ⟨t, ds⟩ w' hd hfr hT hdep K hK
              obtain rfl : ds = [] := hd
              have hv0 := hfr 2 rfl
              change t.getD 2 undef = .int .i64 g at hv0
              go_simp
              exact hK _ _ hT (fun _ _ h => h) rfl
            · rintro ⟨t, ds⟩ w' hd hfr hT hdep K hK
              obtain rfl : ds = [] := hd
              have hv0 := hdep ⟨0, .data⟩ (by simp) rfl _ rfl
              change t.getD 51 undef = .slice a n c at hv0
              have hv1 := hdep ⟨1, .data⟩ (by simp) rfl _ rfl
              change t.getD 52 undef = .int .i64 g at hv1
              go_simp
              refine (of_any w' (.slice a n c) l g (HEV.out.below (HB0.out.trans (below_pre (hT.mono HB0.out.size))) (Nat.le_refl _)) HLN.out).mono ?_
              rintro e wq ⟨v', rfl, hev, hbq⟩
              rw [hF] at hev
              exact hK _ _ (hT.trans (hbq.mono hT.size)) (rfin_stab hbq) hev
            · rintro ⟨t, ds⟩ w' hd hfr hT hdep K hK
              obtain rfl : ds = [] := hd
              have hv0 := hfr 7 rfl
              change t.getD 7 undef = u7 at hv0
              go_simp
              exact hK _ _ hT (fun _ _ h => h) rfl
            · rintro ⟨t, ds⟩ w' hd hfr hT hdep K hK
              obtain rfl : ds = [] := hd
              have hv0 := hdep ⟨3, .data⟩ (by simp) rfl _ rfl
              change t.getD 54 undef = u7 at hv0
              have hw2 := hdep ⟨2, .data⟩ (by simp) rfl _ rfl
              change EvsAt w' (t.getD 53 undef) F at hw2
              obtain ⟨uu, huu⟩ : ∃ uu, t.getD 53 undef = uu := ⟨_, rfl⟩
              rw [huu] at hw2
              go_simp
              refine (evsame_any w' uu u7 F F hw2 (HOV.out.below (below_pre hT) (Nat.le_refl _)) HFN.out HFN.out).mono ?_
              rintro e wq ⟨rfl, q, rfl⟩
              exact hK _ _ (hT.trans (below_drewN _ _ _)) (rfin_stab (below_drewN _ _ _)) (by show Value.bool _ = _; rw [evsB_refl])
            · rintro ⟨t, ds⟩ w' hd hfr hT hdep K hK
              obtain rfl : ds = [] := hd
              have hv0 := hdep ⟨4, .data⟩ (by simp) rfl _ rfl
              change t.getD 55 undef = .bool true at hv0
              go_simp
              exact hK _ _ hT (fun _ _ h => h) rfl
            · rintro ⟨t, ds⟩ w' hd hfr hT hdep K hK
              obtain rfl : ds = [] := hd
              have hgv := hdep ⟨5, .guard⟩ (by simp) rfl _ rfl
              change t.getD 56 undef = .bool true at hgv
              have hg := getDb hgv
              have pb := below_cell hT (Nat.le_refl _) HCW.out
              have hv9 := hfr 3 rfl
              change t.getD 3 undef = .pointer (some ⟨w.heap.size, 0, none⟩) at hv9
              go_simp
              exact hK _ _ hT (fun _ _ h => h) rfl
            · rintro ⟨t, ds⟩ w' hd hfr hT hdep K hK
              obtain rfl : ds = [] := hd
              have hgv := hdep ⟨5, .guard⟩ (by simp) rfl _ rfl
              change t.getD 56 undef = .bool true at hgv
              have hg := getDb hgv
              have hv0 := hfr 1 rfl
              change t.getD 1 undef = .slice a n c at hv0
              go_simp
              exact hK _ _ hT (fun _ _ h => h) rfl
            · rintro ⟨t, ds⟩ w' hd hfr hT hdep K hK
              obtain rfl : ds = [] := hd
              have hgv := hdep ⟨5, .guard⟩ (by simp) rfl _ rfl
              change t.getD 56 undef = .bool true at hgv
              have hg := getDb hgv
              have hv0 := hfr 2 rfl
              change t.getD 2 undef = .int .i64 g at hv0
              go_simp
              exact hK _ _ hT (fun _ _ h => h) rfl
            · rintro ⟨t, ds⟩ w' hd hfr hT hdep K hK
              obtain rfl : ds = [] := hd
              have hgv := hdep ⟨5, .guard⟩ (by simp) rfl _ rfl
              change t.getD 56 undef = .bool true at hgv
              have hg := getDb hgv
              have hv0 := hdep ⟨6, .data⟩ (by simp) rfl _ rfl
              change t.getD 57 undef = .agg #[v0] at hv0
              have hv1 := hdep ⟨7, .data⟩ (by simp) rfl _ rfl
              change t.getD 58 undef = .slice a n c at hv1
              have hv2 := hdep ⟨8, .data⟩ (by simp) rfl _ rfl
              change t.getD 59 undef = .int .i64 g at hv2
              go_simp
              refine (emits_any w' v0 (.slice a n c) p l g (HP.out.below (HB0.out.trans (below_pre (hT.mono HB0.out.size))) (Nat.le_refl _)) HPN.out HPC.out (HEV.out.below (HB0.out.trans (below_pre (hT.mono HB0.out.size))) (Nat.le_refl _)) HLN.out).mono ?_
              rintro e wq ⟨v', mm, rfl, hrow, hbq⟩
              rw [hE] at hrow
              exact hK _ _ (hT.trans (hbq.mono hT.size)) (rfin_stab hbq) (listat_row hrow)
            · rintro ⟨t, ds⟩ w' hd hfr hT hdep K hK
              obtain rfl : ds = [] := hd
              have hgv := hdep ⟨5, .guard⟩ (by simp) rfl _ rfl
              change t.getD 56 undef = .bool true at hgv
              have hg := getDb hgv
              have pb := below_cell hT (Nat.le_refl _) HCW.out
              have hv9 := hfr 3 rfl
              change t.getD 3 undef = .pointer (some ⟨w.heap.size, 0, none⟩) at hv9
              go_simp
              exact hK _ _ hT (fun _ _ h => h) rfl
            · rintro ⟨t, ds⟩ w' hd hfr hT hdep K hK
              obtain rfl : ds = [] := hd
              have hgv := hdep ⟨5, .guard⟩ (by simp) rfl _ rfl
              change t.getD 56 undef = .bool true at hgv
              have hg := getDb hgv
              have hv0 := hfr 1 rfl
              change t.getD 1 undef = .slice a n c at hv0
              go_simp
              exact hK _ _ hT (fun _ _ h => h) rfl
            · rintro ⟨t, ds⟩ w' hd hfr hT hdep K hK
              obtain rfl : ds = [] := hd
              have hgv := hdep ⟨5, .guard⟩ (by simp) rfl _ rfl
              change t.getD 56 undef = .bool true at hgv
              have hg := getDb hgv
              have hv0 := hfr 2 rfl
              change t.getD 2 undef = .int .i64 g at hv0
              go_simp
              exact hK _ _ hT (fun _ _ h => h) rfl
            · rintro ⟨t, ds⟩ w' hd hfr hT hdep K hK
              obtain rfl : ds = [] := hd
              have hgv := hdep ⟨5, .guard⟩ (by simp) rfl _ rfl
              change t.getD 56 undef = .bool true at hgv
              have hg := getDb hgv
              have hv0 := hdep ⟨10, .data⟩ (by simp) rfl _ rfl
              change t.getD 61 undef = .agg #[v0] at hv0
              have hv1 := hdep ⟨11, .data⟩ (by simp) rfl _ rfl
              change t.getD 62 undef = .slice a n c at hv1
              have hv2 := hdep ⟨12, .data⟩ (by simp) rfl _ rfl
              change t.getD 63 undef = .int .i64 g at hv2
              go_simp
              refine (remits_any w' v0 (.slice a n c) p l g (HP.out.below (HB0.out.trans (below_pre (hT.mono HB0.out.size))) (Nat.le_refl _)) HPN.out HPC.out (HEV.out.below (HB0.out.trans (below_pre (hT.mono HB0.out.size))) (Nat.le_refl _)) HLN.out).mono ?_
              rintro e wq ⟨v', mm, rfl, hrow, hbq⟩
              rw [hE] at hrow
              exact hK _ _ (hT.trans (hbq.mono hT.size)) (rfin_stab hbq) (listat_row hrow)
            · rintro ⟨t, ds⟩ w' hd hfr hT hdep K hK
              obtain rfl : ds = [] := hd
              have hgv := hdep ⟨5, .guard⟩ (by simp) rfl _ rfl
              change t.getD 56 undef = .bool true at hgv
              have hg := getDb hgv
              have hw9 := hdep ⟨9, .data⟩ (by simp) rfl _ rfl
              have hw13 := hdep ⟨13, .data⟩ (by simp) rfl _ rfl
              change ListAt (Value.int .i64) 0 w' (t.getD 60 undef) E at hw9
              change ListAt (Value.int .i64) 0 w' (t.getD 64 undef) E at hw13
              obtain ⟨ua, hua⟩ : ∃ uu, t.getD 60 undef = uu := ⟨_, rfl⟩
              obtain ⟨ub, hub⟩ : ∃ uu, t.getD 64 undef = uu := ⟨_, rfl⟩
              rw [hua] at hw9
              rw [hub] at hw13
              go_simp
              refine (numbers_any w' ua ub E E hw9 hw13 HEN.out HEN.out).mono ?_
              rintro e wq ⟨rfl, q, rfl⟩
              exact hK _ _ (hT.trans (below_drewN _ _ _)) (rfin_stab (below_drewN _ _ _)) (by show Value.bool _ = _; simp)
            · rintro ⟨t, ds⟩ w' hd hfr hT hdep K hK
              obtain rfl : ds = [] := hd
              have hv0 := hdep ⟨5, .data⟩ (by simp) rfl _ rfl
              change t.getD 56 undef = .bool true at hv0
              have hv1 := hdep ⟨14, .data⟩ (by simp) rfl _ rfl
              change t.getD 65 undef = .bool true at hv1
              go_simp
              exact hK _ _ hT (fun _ _ h => h) rfl
            · rintro ⟨t, ds⟩ w' hd hfr hT hdep K hK
              obtain rfl : ds = [] := hd
              have hv0 := hdep ⟨15, .data⟩ (by simp) rfl _ rfl
              change t.getD 66 undef = .bool true at hv0
              go_simp
              exact hK _ _ hT (fun _ _ h => h) rfl
            · rintro ⟨t, ds⟩ w' hd hfr hT hdep K hK
              obtain rfl : ds = [] := hd
              have hgv := hdep ⟨16, .guard⟩ (by simp) rfl _ rfl
              change t.getD 67 undef = .bool true at hgv
              have hg := getDb hgv
              go_simp
              refine (evalive_any w' (tab_below HT.out (HB0.out.trans (below_pre (hT.mono HB0.out.size))) (Nat.le_refl _))).mono ?_
              rintro e wq ⟨rfl, hbq⟩
              exact hK _ _ (hT.trans (hbq.mono hT.size)) (rfin_stab hbq) rfl
            · rintro ⟨t, ds⟩ w' hd hfr hT hdep K hK
              obtain rfl : ds = [] := hd
              have hv0 := hdep ⟨16, .data⟩ (by simp) rfl _ rfl
              change t.getD 67 undef = .bool true at hv0
              have hv1 := hdep ⟨17, .data⟩ (by simp) rfl _ rfl
              change t.getD 68 undef = .bool true at hv1
              go_simp
              exact hK _ _ hT (fun _ _ h => h) rfl
            · rintro ⟨t, ds⟩ w' hd hfr hT hdep K hK
              obtain rfl : ds = [] := hd
              have hv0 := hdep ⟨18, .data⟩ (by simp) rfl _ rfl
              change t.getD 69 undef = .bool true at hv0
              go_simp
              exact hK _ _ hT (fun _ _ h => h) rfl
          · rename_i Kc hKc
            rintro ⟨t, ds⟩ w' hd hsz hfr hT hall
            refine hKc _ _ ?_
            clear hKc Kc
            obtain rfl : ds = [] := hd
            have f6 : t.getD 6 undef = .bool true := hall 19 _ rfl
            have ht := tmps_lit t 70 hsz
            simp only [f6, List.range, List.range.loop, List.map] at ht
            rw [ht]
            clear ht hfr hall hsz
            go_wp2_with fail
            go_ret
            exact ⟨rfl, HB0.out.trans (below_pre (hT.mono HB0.out.size))⟩
end Go.Proofs.YtfcoigcenheefaaDoor
