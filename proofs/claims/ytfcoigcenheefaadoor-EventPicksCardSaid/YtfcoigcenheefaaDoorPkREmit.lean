import Derived.Test.YtfcoigcenheefaaDoorPkEmit
import Derived.Test.YtfcoigcenheefaaDoorInv
set_option linter.unusedVariables false
set_option linter.unusedSimpArgs false
namespace Go.Proofs.YtfcoigcenheefaaDoor
open Go.RowKit
/-- The values of a region's operations, one behind the other. -/
def RVals (vs : List Value) : Nat → Value → World → Prop := fun j v _ => match vs[j]? with
  | some u => v = u
  | none => True
theorem getD_undef {t : Array Value} {i : Nat} (h : t.getD i undef = undef) : t[i]? = none ∨ t[i]? = some undef := by
  rw [Array.getD_eq_getD_getElem?] at h
  cases hi : t[i]? with
  | none => exact .inl rfl
  | some x => rw [hi] at h; exact .inr (by simpa using h)
theorem getDb {t : Array Value} {i : Nat} {b : Bool} (h : t.getD i undef = .bool b) : t[i]? = some (.bool b) := by
  rw [Array.getD_eq_getD_getElem?] at h
  cases hi : t[i]? with
  | none => rw [hi] at h; simp [undef] at h
  | some x => rw [hi] at h; simpa using h
set_option maxRecDepth 100000 in
set_option maxHeartbeats 8000000 in
theorem remits_any (w : World) (v0 v : Value) (p : List Fn) (l : List Ev) (g : Int) (hp : ProgAt w v0 p) (hpl : p.length ≤ 1000) (hq : ∀ i, i < p.length → (p.getD i default).1.length ≤ 1000) (h : EvsAt w v l) (hl : l.length ≤ 1000) :
    Calls Tryd.prog 39 #[.agg #[v0], v, .int .i64 g] w fun e w' => ∃ v' m, e = .returned v' ∧ w'.ownsRow w.heap.size 2 1 v' m ((emL p g l).map (Value.int .i64)) ∧ Below w.heap.size w w' := by
  obtain ⟨a, c, rfl, h2⟩ := h
  obtain ⟨n, hn⟩ : ∃ n, n = l.length := ⟨_, rfl⟩
  rw [← hn] at hl ⊢
  have HN := Lib.hid hn
  have H2 := Lib.hid h2
  have HP := Lib.hid hp
  obtain ⟨a0, c0, rfl, _⟩ := hp
  generalize hv0 : Value.slice a0 p.length c0 = v0 at HP ⊢
  have HV0 := Lib.hid hv0
  have HOP := Lib.hid (fun (wx : World) (x : Ev) (hb : Below w.heap.size w wx) => rop_any wx v0 p x (HP.out.below hb (Nat.le_refl _)) hpl hq)
  obtain ⟨wa, ha⟩ : ∃ wa, wa = (w.alloc (Obj.cells #[v0] 44)) := ⟨_, rfl⟩
  have hba : Below w.heap.size w wa := by rw [ha]; exact (Below.refl _ _).alloc (Nat.le_refl _) _
  have hsz : wa.heap.size = w.heap.size + 1 := by rw [ha]; simp
  have cb : wa.cell? ⟨w.heap.size, 0, none⟩ = some v0 := by rw [ha]; simp
  have HA := Lib.hid ha
  have HBA := Lib.hid hba
  have HCB := Lib.hid cb
  have HSZ := Lib.hid hsz
  clear hn h2 hv0 hpl hq ha hba hsz cb
  go_enter Tryd.func39, Tryd.ntmps39
  go_upto_region 1 with fail
  rw [← HA.out]
  go_wp2_with fail
  go_loopw [7, 8] (fun s7 s8 wr => ∃ (k m : Nat), k ≤ n ∧ s8 = .int .i64 k ∧ m ≤ k ∧ wr.ownsRow wa.heap.size 2 1 s7 m ((emL p g (l.take k)).map (Value.int .i64)) ∧ Hid (Below wa.heap.size wa wr)) (fun _ s8 _ => n - (intOf s8).toNat)
  case atStart => exact ⟨0, 0, Nat.zero_le _, rfl, Nat.zero_le _, by simp [emL]; exact ⟨rfl, .inl ⟨rfl, rfl⟩⟩, Lib.hid (Below.refl _ _)⟩
  case round =>
    obtain ⟨k, m, hk, rfl, hmk, hown, hb⟩ := hrel
    have hz1 := hb.out.size
    by_cases hlt : k < n
    · have hkl : k < l.length := by have := HN.out; omega
      obtain ⟨b1, o1, rfl, q1⟩ := H2.out (by omega)
      have hbw : Below w.heap.size w wr := HBA.out.trans (hb.out.mono HBA.out.size)
      have d1 := (q1 k hkl).below hbw (Nat.le_refl _)
      clear q1
      have HY := Lib.hid (fun h => emL_yes (p := p) (g := g) hkl h)
      have HNO := Lib.hid (fun h => emL_no (p := p) (g := g) hkl h)
      obtain ⟨x, hx0⟩ : ∃ x, x = l.getD k default := ⟨_, rfl⟩
      rw [← hx0] at d1 HY HNO
      clear hx0
      obtain ⟨x1, x2, x3, x4, x5⟩ := x
      have k0 : (0 : Int) ≤ (k : Int) := by omega
      have k1 : (k : Int) < (n : Int) := by omega
      have HD : Hid (EvAt wr.drew b1 (o1 + k * 5) ⟨x1, x2, x3, x4, x5⟩) := Lib.hid (d1.below (below_drewN wr.heap.size wr 1) (Nat.le_refl _))
      have HCW : Hid (wr.drew.cell? ⟨w.heap.size, 0, none⟩ = some v0) := Lib.hid (below_cell hb.out (Nat.le_refl _) HCB.out)
      have HOWN := Lib.hid hown
      have HBW := Lib.hid hbw
      clear d1 hown hbw
      by_cases hk2 : x1 = 2
      · subst hk2
        have HE := Lib.hid (show emitC p g ⟨2, x2, x3, x4, x5⟩ = (decide (opAt p x3 x4 = 15) && (decide (g = 0) || decide (x2 = g))) by simp [emitC])
        by_cases ho15 : opAt p x3 x4 = 15
        · have ho2 : (opAt p x3 x4 == 15) = true := by simpa using ho15
          by_cases hg : g = 0
          · have hg2 : (g == 0) = true := by simpa using hg
            have HYY := Lib.hid (HY.out (by rw [HE.out]; simp [ho15, hg]))
            clear hg ho15
            go_upto_region 5 with fail
            refine wp_region_inv (by kernel_rfl) 52 rfl (by kernel_rfl) (fun x y => Below wr.drew.heap.size x y) (RVals [.slice (some ⟨b1, o1, none⟩) n c, .int .i64 k, .pointer (some ⟨b1, o1 + k * 5, none⟩), .pointer (some ⟨b1, o1 + k * 5, none⟩), .int .i64 2, .bool true, .bool true, .agg #[v0], .slice (some ⟨b1, o1, none⟩) n c, .int .i64 k, .pointer (some ⟨b1, o1 + k * 5, none⟩), .agg #[.int .i64 2, .int .i64 x2, .int .i64 x3, .int .i64 x4, .int .i64 x5], .int .i64 (opAt p x3 x4), .bool true, .bool true, .bool true, .int .i64 g, .bool true, .bool true, undef, undef, undef, undef, undef, undef, undef, .bool true, .bool true]) (Below.refl _ _) ?_ ?_
            · refine ⟨?_, ?_, ?_, ?_, ?_, ?_, ?_, ?_, ?_, ?_, ?_, ?_, ?_, ?_, ?_, ?_, ?_, ?_, ?_, ?_, ?_, ?_, ?_, ?_, ?_, ?_, ?_, ?_, trivial⟩
              · rintro ⟨t, ds⟩ w' hd hfr hT hdep K hK
                obtain rfl : ds = [] := hd
                have hv0 := hfr 1 rfl
                change t.getD 1 undef = .slice (some ⟨b1, o1, none⟩) n c at hv0
                go_simp
                exact hK _ _ hT (fun _ _ h => h) rfl
              · rintro ⟨t, ds⟩ w' hd hfr hT hdep K hK
                obtain rfl : ds = [] := hd
                have hv0 := hfr 8 rfl
                change t.getD 8 undef = .int .i64 k at hv0
                go_simp
                exact hK _ _ hT (fun _ _ h => h) rfl
              · rintro ⟨t, ds⟩ w' hd hfr hT hdep K hK
                obtain rfl : ds = [] := hd
                have hv0 := hdep ⟨0, .data⟩ (by simp) rfl _ rfl
                change t.getD 15 undef = .slice (some ⟨b1, o1, none⟩) n c at hv0
                have hv1 := hdep ⟨1, .data⟩ (by simp) rfl _ rfl
                change t.getD 16 undef = .int .i64 k at hv1
                go_simp
                exact hK _ _ hT (fun _ _ h => h) rfl
              · rintro ⟨t, ds⟩ w' hd hfr hT hdep K hK
                obtain rfl : ds = [] := hd
                have hv0 := hdep ⟨2, .data⟩ (by simp) rfl _ rfl
                change t.getD 17 undef = .pointer (some ⟨b1, o1 + k * 5, none⟩) at hv0
                go_simp
                exact hK _ _ hT (fun _ _ h => h) rfl
              · rintro ⟨t, ds⟩ w' hd hfr hT hdep K hK
                obtain rfl : ds = [] := hd
                have hv0 := hdep ⟨3, .data⟩ (by simp) rfl _ rfl
                change t.getD 18 undef = .pointer (some ⟨b1, o1 + k * 5, none⟩) at hv0
                obtain ⟨p0, p1, p2, p3, p4⟩ := HD.out.below hT (Nat.le_refl _)
                go_simp
                exact hK _ _ hT (fun _ _ h => h) rfl
              · rintro ⟨t, ds⟩ w' hd hfr hT hdep K hK
                obtain rfl : ds = [] := hd
                have hv0 := hdep ⟨4, .data⟩ (by simp) rfl _ rfl
                change t.getD 19 undef = .int .i64 2 at hv0
                go_simp
                exact hK _ _ hT (fun _ _ h => h) rfl
              · rintro ⟨t, ds⟩ w' hd hfr hT hdep K hK
                obtain rfl : ds = [] := hd
                have hv0 := hdep ⟨5, .data⟩ (by simp) rfl _ rfl
                change t.getD 20 undef = .bool true at hv0
                go_simp
                exact hK _ _ hT (fun _ _ h => h) rfl
              · rintro ⟨t, ds⟩ w' hd hfr hT hdep K hK
                obtain rfl : ds = [] := hd
                have hgv := hdep ⟨6, .guard⟩ (by simp) rfl _ rfl
                change t.getD 21 undef = .bool true at hgv
                have hg := getDb hgv
                have pb := below_cell hT (Nat.le_refl _) HCW.out
                have hv9 := hfr 3 rfl
                change t.getD 3 undef = .pointer (some ⟨w.heap.size, 0, none⟩) at hv9
                go_simp
                exact hK _ _ hT (fun _ _ h => h) rfl
              · rintro ⟨t, ds⟩ w' hd hfr hT hdep K hK
                obtain rfl : ds = [] := hd
                have hgv := hdep ⟨6, .guard⟩ (by simp) rfl _ rfl
                change t.getD 21 undef = .bool true at hgv
                have hg := getDb hgv
                have hv0 := hfr 1 rfl
                change t.getD 1 undef = .slice (some ⟨b1, o1, none⟩) n c at hv0
                go_simp
                exact hK _ _ hT (fun _ _ h => h) rfl
              · rintro ⟨t, ds⟩ w' hd hfr hT hdep K hK
                obtain rfl : ds = [] := hd
                have hgv := hdep ⟨6, .guard⟩ (by simp) rfl _ rfl
                change t.getD 21 undef = .bool true at hgv
                have hg := getDb hgv
                have hv0 := hfr 8 rfl
                change t.getD 8 undef = .int .i64 k at hv0
                go_simp
                exact hK _ _ hT (fun _ _ h => h) rfl
              · rintro ⟨t, ds⟩ w' hd hfr hT hdep K hK
                obtain rfl : ds = [] := hd
                have hgv := hdep ⟨6, .guard⟩ (by simp) rfl _ rfl
                change t.getD 21 undef = .bool true at hgv
                have hg := getDb hgv
                have hv0 := hdep ⟨8, .data⟩ (by simp) rfl _ rfl
                change t.getD 23 undef = .slice (some ⟨b1, o1, none⟩) n c at hv0
                have hv1 := hdep ⟨9, .data⟩ (by simp) rfl _ rfl
                change t.getD 24 undef = .int .i64 k at hv1
                go_simp
                exact hK _ _ hT (fun _ _ h => h) rfl
              · rintro ⟨t, ds⟩ w' hd hfr hT hdep K hK
                obtain rfl : ds = [] := hd
                have hgv := hdep ⟨6, .guard⟩ (by simp) rfl _ rfl
                change t.getD 21 undef = .bool true at hgv
                have hg := getDb hgv
                have hv0 := hdep ⟨10, .data⟩ (by simp) rfl _ rfl
                change t.getD 25 undef = .pointer (some ⟨b1, o1 + k * 5, none⟩) at hv0
                obtain ⟨p0, p1, p2, p3, p4⟩ := HD.out.below hT (Nat.le_refl _)
                go_simp
                exact hK _ _ hT (fun _ _ h => h) rfl
              · rintro ⟨t, ds⟩ w' hd hfr hT hdep K hK
                obtain rfl : ds = [] := hd
                have hgv := hdep ⟨6, .guard⟩ (by simp) rfl _ rfl
                change t.getD 21 undef = .bool true at hgv
                have hg := getDb hgv
                have hv0 := hdep ⟨7, .data⟩ (by simp) rfl _ rfl
                change t.getD 22 undef = .agg #[v0] at hv0
                have hv1 := hdep ⟨11, .data⟩ (by simp) rfl _ rfl
                change t.getD 26 undef = .agg #[.int .i64 2, .int .i64 x2, .int .i64 x3, .int .i64 x4, .int .i64 x5] at hv1
                go_simp
                refine (HOP.out w' ⟨2, x2, x3, x4, x5⟩ (HBW.out.trans (below_pre (hT.mono HBW.out.size)))).mono ?_
                rintro e wq ⟨rfl, hbq⟩
                exact hK _ _ (hT.trans (hbq.mono hT.size)) (fun _ _ h => h) rfl
              · rintro ⟨t, ds⟩ w' hd hfr hT hdep K hK
                obtain rfl : ds = [] := hd
                have hgv := hdep ⟨6, .guard⟩ (by simp) rfl _ rfl
                change t.getD 21 undef = .bool true at hgv
                have hg := getDb hgv
                have hv0 := hdep ⟨12, .data⟩ (by simp) rfl _ rfl
                change t.getD 27 undef = .int .i64 (opAt p x3 x4) at hv0
                go_simp
                exact hK _ _ hT (fun _ _ h => h) rfl
              · rintro ⟨t, ds⟩ w' hd hfr hT hdep K hK
                obtain rfl : ds = [] := hd
                have hv0 := hdep ⟨6, .data⟩ (by simp) rfl _ rfl
                change t.getD 21 undef = .bool true at hv0
                have hv1 := hdep ⟨13, .data⟩ (by simp) rfl _ rfl
                change t.getD 28 undef = .bool true at hv1
                go_simp
                exact hK _ _ hT (fun _ _ h => h) rfl
              · rintro ⟨t, ds⟩ w' hd hfr hT hdep K hK
                obtain rfl : ds = [] := hd
                have hv0 := hdep ⟨14, .data⟩ (by simp) rfl _ rfl
                change t.getD 29 undef = .bool true at hv0
                go_simp
                exact hK _ _ hT (fun _ _ h => h) rfl
              · rintro ⟨t, ds⟩ w' hd hfr hT hdep K hK
                obtain rfl : ds = [] := hd
                have hgv := hdep ⟨15, .guard⟩ (by simp) rfl _ rfl
                change t.getD 30 undef = .bool true at hgv
                have hg := getDb hgv
                have hv0 := hfr 2 rfl
                change t.getD 2 undef = .int .i64 g at hv0
                go_simp
                exact hK _ _ hT (fun _ _ h => h) rfl
              · rintro ⟨t, ds⟩ w' hd hfr hT hdep K hK
                obtain rfl : ds = [] := hd
                have hgv := hdep ⟨15, .guard⟩ (by simp) rfl _ rfl
                change t.getD 30 undef = .bool true at hgv
                have hg := getDb hgv
                have hv0 := hdep ⟨16, .data⟩ (by simp) rfl _ rfl
                change t.getD 31 undef = .int .i64 g at hv0
                go_simp
                exact hK _ _ hT (fun _ _ h => h) rfl
              · rintro ⟨t, ds⟩ w' hd hfr hT hdep K hK
                obtain rfl : ds = [] := hd
                have hgv := hdep ⟨15, .guard⟩ (by simp) rfl _ rfl
                change t.getD 30 undef = .bool true at hgv
                have hg := getDb hgv
                have hv0 := hdep ⟨17, .data⟩ (by simp) rfl _ rfl
                change t.getD 32 undef = .bool true at hv0
                go_simp
                exact hK _ _ hT (fun _ _ h => h) rfl
              · rintro ⟨t, ds⟩ w' hd hfr hT hdep K hK
                obtain rfl : ds = [] := hd
                have hgv := hdep ⟨18, .guard⟩ (by simp) rfl _ rfl
                change t.getD 33 undef = .bool true at hgv
                have hg := getDb hgv
                go_simp
                exact hK undef _ hT (fun _ _ h => h) rfl
              · rintro ⟨t, ds⟩ w' hd hfr hT hdep K hK
                obtain rfl : ds = [] := hd
                have hgv := hdep ⟨18, .guard⟩ (by simp) rfl _ rfl
                change t.getD 33 undef = .bool true at hgv
                have hg := getDb hgv
                go_simp
                exact hK undef _ hT (fun _ _ h => h) rfl
              · rintro ⟨t, ds⟩ w' hd hfr hT hdep K hK
                obtain rfl : ds = [] := hd
                have hgv := hdep ⟨18, .guard⟩ (by simp) rfl _ rfl
                change t.getD 33 undef = .bool true at hgv
                have hg := getDb hgv
                go_simp
                exact hK undef _ hT (fun _ _ h => h) rfl
              · rintro ⟨t, ds⟩ w' hd hfr hT hdep K hK
                obtain rfl : ds = [] := hd
                have hgv := hdep ⟨18, .guard⟩ (by simp) rfl _ rfl
                change t.getD 33 undef = .bool true at hgv
                have hg := getDb hgv
                go_simp
                exact hK undef _ hT (fun _ _ h => h) rfl
              · rintro ⟨t, ds⟩ w' hd hfr hT hdep K hK
                obtain rfl : ds = [] := hd
                have hgv := hdep ⟨18, .guard⟩ (by simp) rfl _ rfl
                change t.getD 33 undef = .bool true at hgv
                have hg := getDb hgv
                go_simp
                exact hK undef _ hT (fun _ _ h => h) rfl
              · rintro ⟨t, ds⟩ w' hd hfr hT hdep K hK
                obtain rfl : ds = [] := hd
                have hgv := hdep ⟨18, .guard⟩ (by simp) rfl _ rfl
                change t.getD 33 undef = .bool true at hgv
                have hg := getDb hgv
                go_simp
                exact hK undef _ hT (fun _ _ h => h) rfl
              · rintro ⟨t, ds⟩ w' hd hfr hT hdep K hK
                obtain rfl : ds = [] := hd
                have hgv := hdep ⟨18, .guard⟩ (by simp) rfl _ rfl
                change t.getD 33 undef = .bool true at hgv
                have hg := getDb hgv
                go_simp
                exact hK undef _ hT (fun _ _ h => h) rfl
              · rintro ⟨t, ds⟩ w' hd hfr hT hdep K hK
                obtain rfl : ds = [] := hd
                have hgv := hdep ⟨15, .guard⟩ (by simp) rfl _ rfl
                change t.getD 30 undef = .bool true at hgv
                have hg := getDb hgv
                have hv0 := hdep ⟨18, .data⟩ (by simp) rfl _ rfl
                change t.getD 33 undef = .bool true at hv0
                have hv1 := hdep ⟨25, .data⟩ (by simp) rfl _ rfl
                change t.getD 40 undef = undef at hv1
                go_simp
                exact hK _ _ hT (fun _ _ h => h) rfl
              · rintro ⟨t, ds⟩ w' hd hfr hT hdep K hK
                obtain rfl : ds = [] := hd
                have hv0 := hdep ⟨15, .data⟩ (by simp) rfl _ rfl
                change t.getD 30 undef = .bool true at hv0
                have hv1 := hdep ⟨26, .data⟩ (by simp) rfl _ rfl
                change t.getD 41 undef = .bool true at hv1
                go_simp
                exact hK _ _ hT (fun _ _ h => h) rfl
            · rename_i Kc hKc
              rintro ⟨t, ds⟩ w' hd hsz hfr hT hall
              refine hKc _ _ ?_
              clear hKc Kc
              obtain rfl : ds = [] := hd
              have ht := tmps_lit t 52 hsz
              have f0 : t.getD 0 undef = .agg #[v0] := hfr 0 rfl
              have f1 : t.getD 1 undef = .slice (some ⟨b1, o1, none⟩) n c := hfr 1 rfl
              have f2 : t.getD 2 undef = .int .i64 g := hfr 2 rfl
              have f3 : t.getD 3 undef = .pointer (some ⟨w.heap.size, 0, none⟩) := hfr 3 rfl
              have f4 : t.getD 4 undef = undef := hfr 4 rfl
              have f5 : t.getD 5 undef = undef := hfr 5 rfl
              have f6 : t.getD 6 undef = .slice none 0 0 := hfr 6 rfl
              have f7 : t.getD 7 undef = u7 := hfr 7 rfl
              have f8 : t.getD 8 undef = .int .i64 k := hfr 8 rfl
              have f51 : t.getD 51 undef = undef := hfr 51 rfl
              have f42 : t.getD 42 undef = .bool true := hall 27 _ rfl
              simp only [f0, f1, f2, f3, f4, f5, f6, f7, f8, f51, f42, List.range, List.range.loop, List.map] at ht
              rw [ht]
              have HTT := Lib.hid hT
              clear ht f0 f1 f2 f3 f4 f5 f6 f7 f8 f51 f42 hfr hall hsz hT
              generalize t.getD 9 undef = z9
              generalize t.getD 10 undef = z10
              generalize t.getD 11 undef = z11
              generalize t.getD 12 undef = z12
              generalize t.getD 13 undef = z13
              generalize t.getD 14 undef = z14
              generalize t.getD 15 undef = z15
              generalize t.getD 16 undef = z16
              generalize t.getD 17 undef = z17
              generalize t.getD 18 undef = z18
              generalize t.getD 19 undef = z19
              generalize t.getD 20 undef = z20
              generalize t.getD 21 undef = z21
              generalize t.getD 22 undef = z22
              generalize t.getD 23 undef = z23
              generalize t.getD 24 undef = z24
              generalize t.getD 25 undef = z25
              generalize t.getD 26 undef = z26
              generalize t.getD 27 undef = z27
              generalize t.getD 28 undef = z28
              generalize t.getD 29 undef = z29
              generalize t.getD 30 undef = z30
              generalize t.getD 31 undef = z31
              generalize t.getD 32 undef = z32
              generalize t.getD 33 undef = z33
              generalize t.getD 34 undef = z34
              generalize t.getD 35 undef = z35
              generalize t.getD 36 undef = z36
              generalize t.getD 37 undef = z37
              generalize t.getD 38 undef = z38
              generalize t.getD 39 undef = z39
              generalize t.getD 40 undef = z40
              generalize t.getD 41 undef = z41
              generalize t.getD 43 undef = z43
              generalize t.getD 44 undef = z44
              generalize t.getD 45 undef = z45
              generalize t.getD 46 undef = z46
              generalize t.getD 47 undef = z47
              generalize t.getD 48 undef = z48
              generalize t.getD 49 undef = z49
              generalize t.getD 50 undef = z50
              have hown2 := row_below HOWN.out (below_pre HTT.out) (Nat.le_refl _)
              have HB2 := Lib.hid (hb.out.trans (below_pre (HTT.out.mono hb.out.size)))
              have hz2 := HB2.out.size
              obtain ⟨p0, p1, p2, p3, p4⟩ := HD.out.below HTT.out (Nat.le_refl _)
              go_wp2_with (at_builtin; refine wpList_app w' 2 [.int .i64 x5] rfl _ _ 53 rfl wa.heap.size (.int .i64 0) 1 8 Tryd.underlying53 Tryd.info2 rfl (by decide) _ _ _ rfl hown2 _ rfl (by simp) rfl rfl (by omega) (by omega) hz2 wa.heap.size wa HB2.out (Nat.le_refl _) ?_; intro gg cap w'' hown' hb' _ _)
              go_roundw
              case rel => exact ⟨k + 1, m + 1, by omega, by go_num, by omega, by rw [HYY.out, List.map_append]; exact hown', Lib.hid hb'⟩
              case measure => simp [intOf]; omega
          · have hg2 : (g == 0) = false := by simpa using hg
            by_cases hgg : x2 = g
            · have hgg2 : (x2 == g) = true := by simpa using hgg
              have HYY := Lib.hid (HY.out (by rw [HE.out]; simp [ho15, hgg]))
              clear hg hgg ho15
              go_upto_region 5 with fail
              refine wp_region_inv (by kernel_rfl) 52 rfl (by kernel_rfl) (fun x y => Below wr.drew.heap.size x y) (RVals [.slice (some ⟨b1, o1, none⟩) n c, .int .i64 k, .pointer (some ⟨b1, o1 + k * 5, none⟩), .pointer (some ⟨b1, o1 + k * 5, none⟩), .int .i64 2, .bool true, .bool true, .agg #[v0], .slice (some ⟨b1, o1, none⟩) n c, .int .i64 k, .pointer (some ⟨b1, o1 + k * 5, none⟩), .agg #[.int .i64 2, .int .i64 x2, .int .i64 x3, .int .i64 x4, .int .i64 x5], .int .i64 (opAt p x3 x4), .bool true, .bool true, .bool true, .int .i64 g, .bool false, .bool false, .slice (some ⟨b1, o1, none⟩) n c, .int .i64 k, .pointer (some ⟨b1, o1 + k * 5, none⟩), .pointer (some ⟨b1, o1 + k * 5 + 1, none⟩), .int .i64 x2, .int .i64 g, .bool true, .bool true, .bool true]) (Below.refl _ _) ?_ ?_
              · refine ⟨?_, ?_, ?_, ?_, ?_, ?_, ?_, ?_, ?_, ?_, ?_, ?_, ?_, ?_, ?_, ?_, ?_, ?_, ?_, ?_, ?_, ?_, ?_, ?_, ?_, ?_, ?_, ?_, trivial⟩
                · rintro ⟨t, ds⟩ w' hd hfr hT hdep K hK
                  obtain rfl : ds = [] := hd
                  have hv0 := hfr 1 rfl
                  change t.getD 1 undef = .slice (some ⟨b1, o1, none⟩) n c at hv0
                  go_simp
                  exact hK _ _ hT (fun _ _ h => h) rfl
                · rintro ⟨t, ds⟩ w' hd hfr hT hdep K hK
                  obtain rfl : ds = [] := hd
                  have hv0 := hfr 8 rfl
                  change t.getD 8 undef = .int .i64 k at hv0
                  go_simp
                  exact hK _ _ hT (fun _ _ h => h) rfl
                · rintro ⟨t, ds⟩ w' hd hfr hT hdep K hK
                  obtain rfl : ds = [] := hd
                  have hv0 := hdep ⟨0, .data⟩ (by simp) rfl _ rfl
                  change t.getD 15 undef = .slice (some ⟨b1, o1, none⟩) n c at hv0
                  have hv1 := hdep ⟨1, .data⟩ (by simp) rfl _ rfl
                  change t.getD 16 undef = .int .i64 k at hv1
                  go_simp
                  exact hK _ _ hT (fun _ _ h => h) rfl
                · rintro ⟨t, ds⟩ w' hd hfr hT hdep K hK
                  obtain rfl : ds = [] := hd
                  have hv0 := hdep ⟨2, .data⟩ (by simp) rfl _ rfl
                  change t.getD 17 undef = .pointer (some ⟨b1, o1 + k * 5, none⟩) at hv0
                  go_simp
                  exact hK _ _ hT (fun _ _ h => h) rfl
                · rintro ⟨t, ds⟩ w' hd hfr hT hdep K hK
                  obtain rfl : ds = [] := hd
                  have hv0 := hdep ⟨3, .data⟩ (by simp) rfl _ rfl
                  change t.getD 18 undef = .pointer (some ⟨b1, o1 + k * 5, none⟩) at hv0
                  obtain ⟨p0, p1, p2, p3, p4⟩ := HD.out.below hT (Nat.le_refl _)
                  go_simp
                  exact hK _ _ hT (fun _ _ h => h) rfl
                · rintro ⟨t, ds⟩ w' hd hfr hT hdep K hK
                  obtain rfl : ds = [] := hd
                  have hv0 := hdep ⟨4, .data⟩ (by simp) rfl _ rfl
                  change t.getD 19 undef = .int .i64 2 at hv0
                  go_simp
                  exact hK _ _ hT (fun _ _ h => h) rfl
                · rintro ⟨t, ds⟩ w' hd hfr hT hdep K hK
                  obtain rfl : ds = [] := hd
                  have hv0 := hdep ⟨5, .data⟩ (by simp) rfl _ rfl
                  change t.getD 20 undef = .bool true at hv0
                  go_simp
                  exact hK _ _ hT (fun _ _ h => h) rfl
                · rintro ⟨t, ds⟩ w' hd hfr hT hdep K hK
                  obtain rfl : ds = [] := hd
                  have hgv := hdep ⟨6, .guard⟩ (by simp) rfl _ rfl
                  change t.getD 21 undef = .bool true at hgv
                  have hg := getDb hgv
                  have pb := below_cell hT (Nat.le_refl _) HCW.out
                  have hv9 := hfr 3 rfl
                  change t.getD 3 undef = .pointer (some ⟨w.heap.size, 0, none⟩) at hv9
                  go_simp
                  exact hK _ _ hT (fun _ _ h => h) rfl
                · rintro ⟨t, ds⟩ w' hd hfr hT hdep K hK
                  obtain rfl : ds = [] := hd
                  have hgv := hdep ⟨6, .guard⟩ (by simp) rfl _ rfl
                  change t.getD 21 undef = .bool true at hgv
                  have hg := getDb hgv
                  have hv0 := hfr 1 rfl
                  change t.getD 1 undef = .slice (some ⟨b1, o1, none⟩) n c at hv0
                  go_simp
                  exact hK _ _ hT (fun _ _ h => h) rfl
                · rintro ⟨t, ds⟩ w' hd hfr hT hdep K hK
                  obtain rfl : ds = [] := hd
                  have hgv := hdep ⟨6, .guard⟩ (by simp) rfl _ rfl
                  change t.getD 21 undef = .bool true at hgv
                  have hg := getDb hgv
                  have hv0 := hfr 8 rfl
                  change t.getD 8 undef = .int .i64 k at hv0
                  go_simp
                  exact hK _ _ hT (fun _ _ h => h) rfl
                · rintro ⟨t, ds⟩ w' hd hfr hT hdep K hK
                  obtain rfl : ds = [] := hd
                  have hgv := hdep ⟨6, .guard⟩ (by simp) rfl _ rfl
                  change t.getD 21 undef = .bool true at hgv
                  have hg := getDb hgv
                  have hv0 := hdep ⟨8, .data⟩ (by simp) rfl _ rfl
                  change t.getD 23 undef = .slice (some ⟨b1, o1, none⟩) n c at hv0
                  have hv1 := hdep ⟨9, .data⟩ (by simp) rfl _ rfl
                  change t.getD 24 undef = .int .i64 k at hv1
                  go_simp
                  exact hK _ _ hT (fun _ _ h => h) rfl
                · rintro ⟨t, ds⟩ w' hd hfr hT hdep K hK
                  obtain rfl : ds = [] := hd
                  have hgv := hdep ⟨6, .guard⟩ (by simp) rfl _ rfl
                  change t.getD 21 undef = .bool true at hgv
                  have hg := getDb hgv
                  have hv0 := hdep ⟨10, .data⟩ (by simp) rfl _ rfl
                  change t.getD 25 undef = .pointer (some ⟨b1, o1 + k * 5, none⟩) at hv0
                  obtain ⟨p0, p1, p2, p3, p4⟩ := HD.out.below hT (Nat.le_refl _)
                  go_simp
                  exact hK _ _ hT (fun _ _ h => h) rfl
                · rintro ⟨t, ds⟩ w' hd hfr hT hdep K hK
                  obtain rfl : ds = [] := hd
                  have hgv := hdep ⟨6, .guard⟩ (by simp) rfl _ rfl
                  change t.getD 21 undef = .bool true at hgv
                  have hg := getDb hgv
                  have hv0 := hdep ⟨7, .data⟩ (by simp) rfl _ rfl
                  change t.getD 22 undef = .agg #[v0] at hv0
                  have hv1 := hdep ⟨11, .data⟩ (by simp) rfl _ rfl
                  change t.getD 26 undef = .agg #[.int .i64 2, .int .i64 x2, .int .i64 x3, .int .i64 x4, .int .i64 x5] at hv1
                  go_simp
                  refine (HOP.out w' ⟨2, x2, x3, x4, x5⟩ (HBW.out.trans (below_pre (hT.mono HBW.out.size)))).mono ?_
                  rintro e wq ⟨rfl, hbq⟩
                  exact hK _ _ (hT.trans (hbq.mono hT.size)) (fun _ _ h => h) rfl
                · rintro ⟨t, ds⟩ w' hd hfr hT hdep K hK
                  obtain rfl : ds = [] := hd
                  have hgv := hdep ⟨6, .guard⟩ (by simp) rfl _ rfl
                  change t.getD 21 undef = .bool true at hgv
                  have hg := getDb hgv
                  have hv0 := hdep ⟨12, .data⟩ (by simp) rfl _ rfl
                  change t.getD 27 undef = .int .i64 (opAt p x3 x4) at hv0
                  go_simp
                  exact hK _ _ hT (fun _ _ h => h) rfl
                · rintro ⟨t, ds⟩ w' hd hfr hT hdep K hK
                  obtain rfl : ds = [] := hd
                  have hv0 := hdep ⟨6, .data⟩ (by simp) rfl _ rfl
                  change t.getD 21 undef = .bool true at hv0
                  have hv1 := hdep ⟨13, .data⟩ (by simp) rfl _ rfl
                  change t.getD 28 undef = .bool true at hv1
                  go_simp
                  exact hK _ _ hT (fun _ _ h => h) rfl
                · rintro ⟨t, ds⟩ w' hd hfr hT hdep K hK
                  obtain rfl : ds = [] := hd
                  have hv0 := hdep ⟨14, .data⟩ (by simp) rfl _ rfl
                  change t.getD 29 undef = .bool true at hv0
                  go_simp
                  exact hK _ _ hT (fun _ _ h => h) rfl
                · rintro ⟨t, ds⟩ w' hd hfr hT hdep K hK
                  obtain rfl : ds = [] := hd
                  have hgv := hdep ⟨15, .guard⟩ (by simp) rfl _ rfl
                  change t.getD 30 undef = .bool true at hgv
                  have hg := getDb hgv
                  have hv0 := hfr 2 rfl
                  change t.getD 2 undef = .int .i64 g at hv0
                  go_simp
                  exact hK _ _ hT (fun _ _ h => h) rfl
                · rintro ⟨t, ds⟩ w' hd hfr hT hdep K hK
                  obtain rfl : ds = [] := hd
                  have hgv := hdep ⟨15, .guard⟩ (by simp) rfl _ rfl
                  change t.getD 30 undef = .bool true at hgv
                  have hg := getDb hgv
                  have hv0 := hdep ⟨16, .data⟩ (by simp) rfl _ rfl
                  change t.getD 31 undef = .int .i64 g at hv0
                  go_simp
                  exact hK _ _ hT (fun _ _ h => h) rfl
                · rintro ⟨t, ds⟩ w' hd hfr hT hdep K hK
                  obtain rfl : ds = [] := hd
                  have hgv := hdep ⟨15, .guard⟩ (by simp) rfl _ rfl
                  change t.getD 30 undef = .bool true at hgv
                  have hg := getDb hgv
                  have hv0 := hdep ⟨17, .data⟩ (by simp) rfl _ rfl
                  change t.getD 32 undef = .bool false at hv0
                  go_simp
                  exact hK _ _ hT (fun _ _ h => h) rfl
                · rintro ⟨t, ds⟩ w' hd hfr hT hdep K hK
                  obtain rfl : ds = [] := hd
                  have hgv := hdep ⟨18, .guard⟩ (by simp) rfl _ rfl
                  change t.getD 33 undef = .bool false at hgv
                  have hg := getDb hgv
                  have hv0 := hfr 1 rfl
                  change t.getD 1 undef = .slice (some ⟨b1, o1, none⟩) n c at hv0
                  go_simp
                  exact hK _ _ hT (fun _ _ h => h) rfl
                · rintro ⟨t, ds⟩ w' hd hfr hT hdep K hK
                  obtain rfl : ds = [] := hd
                  have hgv := hdep ⟨18, .guard⟩ (by simp) rfl _ rfl
                  change t.getD 33 undef = .bool false at hgv
                  have hg := getDb hgv
                  have hv0 := hfr 8 rfl
                  change t.getD 8 undef = .int .i64 k at hv0
                  go_simp
                  exact hK _ _ hT (fun _ _ h => h) rfl
                · rintro ⟨t, ds⟩ w' hd hfr hT hdep K hK
                  obtain rfl : ds = [] := hd
                  have hgv := hdep ⟨18, .guard⟩ (by simp) rfl _ rfl
                  change t.getD 33 undef = .bool false at hgv
                  have hg := getDb hgv
                  have hv0 := hdep ⟨19, .data⟩ (by simp) rfl _ rfl
                  change t.getD 34 undef = .slice (some ⟨b1, o1, none⟩) n c at hv0
                  have hv1 := hdep ⟨20, .data⟩ (by simp) rfl _ rfl
                  change t.getD 35 undef = .int .i64 k at hv1
                  go_simp
                  exact hK _ _ hT (fun _ _ h => h) rfl
                · rintro ⟨t, ds⟩ w' hd hfr hT hdep K hK
                  obtain rfl : ds = [] := hd
                  have hgv := hdep ⟨18, .guard⟩ (by simp) rfl _ rfl
                  change t.getD 33 undef = .bool false at hgv
                  have hg := getDb hgv
                  have hv0 := hdep ⟨21, .data⟩ (by simp) rfl _ rfl
                  change t.getD 36 undef = .pointer (some ⟨b1, o1 + k * 5, none⟩) at hv0
                  go_simp
                  exact hK _ _ hT (fun _ _ h => h) rfl
                · rintro ⟨t, ds⟩ w' hd hfr hT hdep K hK
                  obtain rfl : ds = [] := hd
                  have hgv := hdep ⟨18, .guard⟩ (by simp) rfl _ rfl
                  change t.getD 33 undef = .bool false at hgv
                  have hg := getDb hgv
                  have hv0 := hdep ⟨22, .data⟩ (by simp) rfl _ rfl
                  change t.getD 37 undef = .pointer (some ⟨b1, o1 + k * 5 + 1, none⟩) at hv0
                  obtain ⟨p0, p1, p2, p3, p4⟩ := HD.out.below hT (Nat.le_refl _)
                  go_simp
                  exact hK _ _ hT (fun _ _ h => h) rfl
                · rintro ⟨t, ds⟩ w' hd hfr hT hdep K hK
                  obtain rfl : ds = [] := hd
                  have hgv := hdep ⟨18, .guard⟩ (by simp) rfl _ rfl
                  change t.getD 33 undef = .bool false at hgv
                  have hg := getDb hgv
                  have hv0 := hfr 2 rfl
                  change t.getD 2 undef = .int .i64 g at hv0
                  go_simp
                  exact hK _ _ hT (fun _ _ h => h) rfl
                · rintro ⟨t, ds⟩ w' hd hfr hT hdep K hK
                  obtain rfl : ds = [] := hd
                  have hgv := hdep ⟨18, .guard⟩ (by simp) rfl _ rfl
                  change t.getD 33 undef = .bool false at hgv
                  have hg := getDb hgv
                  have hv0 := hdep ⟨23, .data⟩ (by simp) rfl _ rfl
                  change t.getD 38 undef = .int .i64 x2 at hv0
                  have hv1 := hdep ⟨24, .data⟩ (by simp) rfl _ rfl
                  change t.getD 39 undef = .int .i64 g at hv1
                  go_simp
                  exact hK _ _ hT (fun _ _ h => h) rfl
                · rintro ⟨t, ds⟩ w' hd hfr hT hdep K hK
                  obtain rfl : ds = [] := hd
                  have hgv := hdep ⟨15, .guard⟩ (by simp) rfl _ rfl
                  change t.getD 30 undef = .bool true at hgv
                  have hg := getDb hgv
                  have hv0 := hdep ⟨18, .data⟩ (by simp) rfl _ rfl
                  change t.getD 33 undef = .bool false at hv0
                  have hv1 := hdep ⟨25, .data⟩ (by simp) rfl _ rfl
                  change t.getD 40 undef = .bool true at hv1
                  go_simp
                  exact hK _ _ hT (fun _ _ h => h) rfl
                · rintro ⟨t, ds⟩ w' hd hfr hT hdep K hK
                  obtain rfl : ds = [] := hd
                  have hv0 := hdep ⟨15, .data⟩ (by simp) rfl _ rfl
                  change t.getD 30 undef = .bool true at hv0
                  have hv1 := hdep ⟨26, .data⟩ (by simp) rfl _ rfl
                  change t.getD 41 undef = .bool true at hv1
                  go_simp
                  exact hK _ _ hT (fun _ _ h => h) rfl
              · rename_i Kc hKc
                rintro ⟨t, ds⟩ w' hd hsz hfr hT hall
                refine hKc _ _ ?_
                clear hKc Kc
                obtain rfl : ds = [] := hd
                have ht := tmps_lit t 52 hsz
                have f0 : t.getD 0 undef = .agg #[v0] := hfr 0 rfl
                have f1 : t.getD 1 undef = .slice (some ⟨b1, o1, none⟩) n c := hfr 1 rfl
                have f2 : t.getD 2 undef = .int .i64 g := hfr 2 rfl
                have f3 : t.getD 3 undef = .pointer (some ⟨w.heap.size, 0, none⟩) := hfr 3 rfl
                have f4 : t.getD 4 undef = undef := hfr 4 rfl
                have f5 : t.getD 5 undef = undef := hfr 5 rfl
                have f6 : t.getD 6 undef = .slice none 0 0 := hfr 6 rfl
                have f7 : t.getD 7 undef = u7 := hfr 7 rfl
                have f8 : t.getD 8 undef = .int .i64 k := hfr 8 rfl
                have f51 : t.getD 51 undef = undef := hfr 51 rfl
                have f42 : t.getD 42 undef = .bool true := hall 27 _ rfl
                simp only [f0, f1, f2, f3, f4, f5, f6, f7, f8, f51, f42, List.range, List.range.loop, List.map] at ht
                rw [ht]
                have HTT := Lib.hid hT
                clear ht f0 f1 f2 f3 f4 f5 f6 f7 f8 f51 f42 hfr hall hsz hT
                generalize t.getD 9 undef = z9
                generalize t.getD 10 undef = z10
                generalize t.getD 11 undef = z11
                generalize t.getD 12 undef = z12
                generalize t.getD 13 undef = z13
                generalize t.getD 14 undef = z14
                generalize t.getD 15 undef = z15
                generalize t.getD 16 undef = z16
                generalize t.getD 17 undef = z17
                generalize t.getD 18 undef = z18
                generalize t.getD 19 undef = z19
                generalize t.getD 20 undef = z20
                generalize t.getD 21 undef = z21
                generalize t.getD 22 undef = z22
                generalize t.getD 23 undef = z23
                generalize t.getD 24 undef = z24
                generalize t.getD 25 undef = z25
                generalize t.getD 26 undef = z26
                generalize t.getD 27 undef = z27
                generalize t.getD 28 undef = z28
                generalize t.getD 29 undef = z29
                generalize t.getD 30 undef = z30
                generalize t.getD 31 undef = z31
                generalize t.getD 32 undef = z32
                generalize t.getD 33 undef = z33
                generalize t.getD 34 undef = z34
                generalize t.getD 35 undef = z35
                generalize t.getD 36 undef = z36
                generalize t.getD 37 undef = z37
                generalize t.getD 38 undef = z38
                generalize t.getD 39 undef = z39
                generalize t.getD 40 undef = z40
                generalize t.getD 41 undef = z41
                generalize t.getD 43 undef = z43
                generalize t.getD 44 undef = z44
                generalize t.getD 45 undef = z45
                generalize t.getD 46 undef = z46
                generalize t.getD 47 undef = z47
                generalize t.getD 48 undef = z48
                generalize t.getD 49 undef = z49
                generalize t.getD 50 undef = z50
                have hown2 := row_below HOWN.out (below_pre HTT.out) (Nat.le_refl _)
                have HB2 := Lib.hid (hb.out.trans (below_pre (HTT.out.mono hb.out.size)))
                have hz2 := HB2.out.size
                obtain ⟨p0, p1, p2, p3, p4⟩ := HD.out.below HTT.out (Nat.le_refl _)
                go_wp2_with (at_builtin; refine wpList_app w' 2 [.int .i64 x5] rfl _ _ 53 rfl wa.heap.size (.int .i64 0) 1 8 Tryd.underlying53 Tryd.info2 rfl (by decide) _ _ _ rfl hown2 _ rfl (by simp) rfl rfl (by omega) (by omega) hz2 wa.heap.size wa HB2.out (Nat.le_refl _) ?_; intro gg cap w'' hown' hb' _ _)
                go_roundw
                case rel => exact ⟨k + 1, m + 1, by omega, by go_num, by omega, by rw [HYY.out, List.map_append]; exact hown', Lib.hid hb'⟩
                case measure => simp [intOf]; omega
            · have hgg2 : (x2 == g) = false := by simpa using hgg
              have HNN := Lib.hid (HNO.out (by rw [HE.out]; simp [hg, hgg]))
              clear hg hgg ho15
              go_upto_region 5 with fail
              refine wp_region_inv (by kernel_rfl) 52 rfl (by kernel_rfl) (fun x y => Below wr.drew.heap.size x y) (RVals [.slice (some ⟨b1, o1, none⟩) n c, .int .i64 k, .pointer (some ⟨b1, o1 + k * 5, none⟩), .pointer (some ⟨b1, o1 + k * 5, none⟩), .int .i64 2, .bool true, .bool true, .agg #[v0], .slice (some ⟨b1, o1, none⟩) n c, .int .i64 k, .pointer (some ⟨b1, o1 + k * 5, none⟩), .agg #[.int .i64 2, .int .i64 x2, .int .i64 x3, .int .i64 x4, .int .i64 x5], .int .i64 (opAt p x3 x4), .bool true, .bool true, .bool true, .int .i64 g, .bool false, .bool false, .slice (some ⟨b1, o1, none⟩) n c, .int .i64 k, .pointer (some ⟨b1, o1 + k * 5, none⟩), .pointer (some ⟨b1, o1 + k * 5 + 1, none⟩), .int .i64 x2, .int .i64 g, .bool false, .bool false, .bool false]) (Below.refl _ _) ?_ ?_
              · refine ⟨?_, ?_, ?_, ?_, ?_, ?_, ?_, ?_, ?_, ?_, ?_, ?_, ?_, ?_, ?_, ?_, ?_, ?_, ?_, ?_, ?_, ?_, ?_, ?_, ?_, ?_, ?_, ?_, trivial⟩
                · rintro ⟨t, ds⟩ w' hd hfr hT hdep K hK
                  obtain rfl : ds = [] := hd
                  have hv0 := hfr 1 rfl
                  change t.getD 1 undef = .slice (some ⟨b1, o1, none⟩) n c at hv0
                  go_simp
                  exact hK _ _ hT (fun _ _ h => h) rfl
                · rintro ⟨t, ds⟩ w' hd hfr hT hdep K hK
                  obtain rfl : ds = [] := hd
                  have hv0 := hfr 8 rfl
                  change t.getD 8 undef = .int .i64 k at hv0
                  go_simp
                  exact hK _ _ hT (fun _ _ h => h) rfl
                · rintro ⟨t, ds⟩ w' hd hfr hT hdep K hK
                  obtain rfl : ds = [] := hd
                  have hv0 := hdep ⟨0, .data⟩ (by simp) rfl _ rfl
                  change t.getD 15 undef = .slice (some ⟨b1, o1, none⟩) n c at hv0
                  have hv1 := hdep ⟨1, .data⟩ (by simp) rfl _ rfl
                  change t.getD 16 undef = .int .i64 k at hv1
                  go_simp
                  exact hK _ _ hT (fun _ _ h => h) rfl
                · rintro ⟨t, ds⟩ w' hd hfr hT hdep K hK
                  obtain rfl : ds = [] := hd
                  have hv0 := hdep ⟨2, .data⟩ (by simp) rfl _ rfl
                  change t.getD 17 undef = .pointer (some ⟨b1, o1 + k * 5, none⟩) at hv0
                  go_simp
                  exact hK _ _ hT (fun _ _ h => h) rfl
                · rintro ⟨t, ds⟩ w' hd hfr hT hdep K hK
                  obtain rfl : ds = [] := hd
                  have hv0 := hdep ⟨3, .data⟩ (by simp) rfl _ rfl
                  change t.getD 18 undef = .pointer (some ⟨b1, o1 + k * 5, none⟩) at hv0
                  obtain ⟨p0, p1, p2, p3, p4⟩ := HD.out.below hT (Nat.le_refl _)
                  go_simp
                  exact hK _ _ hT (fun _ _ h => h) rfl
                · rintro ⟨t, ds⟩ w' hd hfr hT hdep K hK
                  obtain rfl : ds = [] := hd
                  have hv0 := hdep ⟨4, .data⟩ (by simp) rfl _ rfl
                  change t.getD 19 undef = .int .i64 2 at hv0
                  go_simp
                  exact hK _ _ hT (fun _ _ h => h) rfl
                · rintro ⟨t, ds⟩ w' hd hfr hT hdep K hK
                  obtain rfl : ds = [] := hd
                  have hv0 := hdep ⟨5, .data⟩ (by simp) rfl _ rfl
                  change t.getD 20 undef = .bool true at hv0
                  go_simp
                  exact hK _ _ hT (fun _ _ h => h) rfl
                · rintro ⟨t, ds⟩ w' hd hfr hT hdep K hK
                  obtain rfl : ds = [] := hd
                  have hgv := hdep ⟨6, .guard⟩ (by simp) rfl _ rfl
                  change t.getD 21 undef = .bool true at hgv
                  have hg := getDb hgv
                  have pb := below_cell hT (Nat.le_refl _) HCW.out
                  have hv9 := hfr 3 rfl
                  change t.getD 3 undef = .pointer (some ⟨w.heap.size, 0, none⟩) at hv9
                  go_simp
                  exact hK _ _ hT (fun _ _ h => h) rfl
                · rintro ⟨t, ds⟩ w' hd hfr hT hdep K hK
                  obtain rfl : ds = [] := hd
                  have hgv := hdep ⟨6, .guard⟩ (by simp) rfl _ rfl
                  change t.getD 21 undef = .bool true at hgv
                  have hg := getDb hgv
                  have hv0 := hfr 1 rfl
                  change t.getD 1 undef = .slice (some ⟨b1, o1, none⟩) n c at hv0
                  go_simp
                  exact hK _ _ hT (fun _ _ h => h) rfl
                · rintro ⟨t, ds⟩ w' hd hfr hT hdep K hK
                  obtain rfl : ds = [] := hd
                  have hgv := hdep ⟨6, .guard⟩ (by simp) rfl _ rfl
                  change t.getD 21 undef = .bool true at hgv
                  have hg := getDb hgv
                  have hv0 := hfr 8 rfl
                  change t.getD 8 undef = .int .i64 k at hv0
                  go_simp
                  exact hK _ _ hT (fun _ _ h => h) rfl
                · rintro ⟨t, ds⟩ w' hd hfr hT hdep K hK
                  obtain rfl : ds = [] := hd
                  have hgv := hdep ⟨6, .guard⟩ (by simp) rfl _ rfl
                  change t.getD 21 undef = .bool true at hgv
                  have hg := getDb hgv
                  have hv0 := hdep ⟨8, .data⟩ (by simp) rfl _ rfl
                  change t.getD 23 undef = .slice (some ⟨b1, o1, none⟩) n c at hv0
                  have hv1 := hdep ⟨9, .data⟩ (by simp) rfl _ rfl
                  change t.getD 24 undef = .int .i64 k at hv1
                  go_simp
                  exact hK _ _ hT (fun _ _ h => h) rfl
                · rintro ⟨t, ds⟩ w' hd hfr hT hdep K hK
                  obtain rfl : ds = [] := hd
                  have hgv := hdep ⟨6, .guard⟩ (by simp) rfl _ rfl
                  change t.getD 21 undef = .bool true at hgv
                  have hg := getDb hgv
                  have hv0 := hdep ⟨10, .data⟩ (by simp) rfl _ rfl
                  change t.getD 25 undef = .pointer (some ⟨b1, o1 + k * 5, none⟩) at hv0
                  obtain ⟨p0, p1, p2, p3, p4⟩ := HD.out.below hT (Nat.le_refl _)
                  go_simp
                  exact hK _ _ hT (fun _ _ h => h) rfl
                · rintro ⟨t, ds⟩ w' hd hfr hT hdep K hK
                  obtain rfl : ds = [] := hd
                  have hgv := hdep ⟨6, .guard⟩ (by simp) rfl _ rfl
                  change t.getD 21 undef = .bool true at hgv
                  have hg := getDb hgv
                  have hv0 := hdep ⟨7, .data⟩ (by simp) rfl _ rfl
                  change t.getD 22 undef = .agg #[v0] at hv0
                  have hv1 := hdep ⟨11, .data⟩ (by simp) rfl _ rfl
                  change t.getD 26 undef = .agg #[.int .i64 2, .int .i64 x2, .int .i64 x3, .int .i64 x4, .int .i64 x5] at hv1
                  go_simp
                  refine (HOP.out w' ⟨2, x2, x3, x4, x5⟩ (HBW.out.trans (below_pre (hT.mono HBW.out.size)))).mono ?_
                  rintro e wq ⟨rfl, hbq⟩
                  exact hK _ _ (hT.trans (hbq.mono hT.size)) (fun _ _ h => h) rfl
                · rintro ⟨t, ds⟩ w' hd hfr hT hdep K hK
                  obtain rfl : ds = [] := hd
                  have hgv := hdep ⟨6, .guard⟩ (by simp) rfl _ rfl
                  change t.getD 21 undef = .bool true at hgv
                  have hg := getDb hgv
                  have hv0 := hdep ⟨12, .data⟩ (by simp) rfl _ rfl
                  change t.getD 27 undef = .int .i64 (opAt p x3 x4) at hv0
                  go_simp
                  exact hK _ _ hT (fun _ _ h => h) rfl
                · rintro ⟨t, ds⟩ w' hd hfr hT hdep K hK
                  obtain rfl : ds = [] := hd
                  have hv0 := hdep ⟨6, .data⟩ (by simp) rfl _ rfl
                  change t.getD 21 undef = .bool true at hv0
                  have hv1 := hdep ⟨13, .data⟩ (by simp) rfl _ rfl
                  change t.getD 28 undef = .bool true at hv1
                  go_simp
                  exact hK _ _ hT (fun _ _ h => h) rfl
                · rintro ⟨t, ds⟩ w' hd hfr hT hdep K hK
                  obtain rfl : ds = [] := hd
                  have hv0 := hdep ⟨14, .data⟩ (by simp) rfl _ rfl
                  change t.getD 29 undef = .bool true at hv0
                  go_simp
                  exact hK _ _ hT (fun _ _ h => h) rfl
                · rintro ⟨t, ds⟩ w' hd hfr hT hdep K hK
                  obtain rfl : ds = [] := hd
                  have hgv := hdep ⟨15, .guard⟩ (by simp) rfl _ rfl
                  change t.getD 30 undef = .bool true at hgv
                  have hg := getDb hgv
                  have hv0 := hfr 2 rfl
                  change t.getD 2 undef = .int .i64 g at hv0
                  go_simp
                  exact hK _ _ hT (fun _ _ h => h) rfl
                · rintro ⟨t, ds⟩ w' hd hfr hT hdep K hK
                  obtain rfl : ds = [] := hd
                  have hgv := hdep ⟨15, .guard⟩ (by simp) rfl _ rfl
                  change t.getD 30 undef = .bool true at hgv
                  have hg := getDb hgv
                  have hv0 := hdep ⟨16, .data⟩ (by simp) rfl _ rfl
                  change t.getD 31 undef = .int .i64 g at hv0
                  go_simp
                  exact hK _ _ hT (fun _ _ h => h) rfl
                · rintro ⟨t, ds⟩ w' hd hfr hT hdep K hK
                  obtain rfl : ds = [] := hd
                  have hgv := hdep ⟨15, .guard⟩ (by simp) rfl _ rfl
                  change t.getD 30 undef = .bool true at hgv
                  have hg := getDb hgv
                  have hv0 := hdep ⟨17, .data⟩ (by simp) rfl _ rfl
                  change t.getD 32 undef = .bool false at hv0
                  go_simp
                  exact hK _ _ hT (fun _ _ h => h) rfl
                · rintro ⟨t, ds⟩ w' hd hfr hT hdep K hK
                  obtain rfl : ds = [] := hd
                  have hgv := hdep ⟨18, .guard⟩ (by simp) rfl _ rfl
                  change t.getD 33 undef = .bool false at hgv
                  have hg := getDb hgv
                  have hv0 := hfr 1 rfl
                  change t.getD 1 undef = .slice (some ⟨b1, o1, none⟩) n c at hv0
                  go_simp
                  exact hK _ _ hT (fun _ _ h => h) rfl
                · rintro ⟨t, ds⟩ w' hd hfr hT hdep K hK
                  obtain rfl : ds = [] := hd
                  have hgv := hdep ⟨18, .guard⟩ (by simp) rfl _ rfl
                  change t.getD 33 undef = .bool false at hgv
                  have hg := getDb hgv
                  have hv0 := hfr 8 rfl
                  change t.getD 8 undef = .int .i64 k at hv0
                  go_simp
                  exact hK _ _ hT (fun _ _ h => h) rfl
                · rintro ⟨t, ds⟩ w' hd hfr hT hdep K hK
                  obtain rfl : ds = [] := hd
                  have hgv := hdep ⟨18, .guard⟩ (by simp) rfl _ rfl
                  change t.getD 33 undef = .bool false at hgv
                  have hg := getDb hgv
                  have hv0 := hdep ⟨19, .data⟩ (by simp) rfl _ rfl
                  change t.getD 34 undef = .slice (some ⟨b1, o1, none⟩) n c at hv0
                  have hv1 := hdep ⟨20, .data⟩ (by simp) rfl _ rfl
                  change t.getD 35 undef = .int .i64 k at hv1
                  go_simp
                  exact hK _ _ hT (fun _ _ h => h) rfl
                · rintro ⟨t, ds⟩ w' hd hfr hT hdep K hK
                  obtain rfl : ds = [] := hd
                  have hgv := hdep ⟨18, .guard⟩ (by simp) rfl _ rfl
                  change t.getD 33 undef = .bool false at hgv
                  have hg := getDb hgv
                  have hv0 := hdep ⟨21, .data⟩ (by simp) rfl _ rfl
                  change t.getD 36 undef = .pointer (some ⟨b1, o1 + k * 5, none⟩) at hv0
                  go_simp
                  exact hK _ _ hT (fun _ _ h => h) rfl
                · rintro ⟨t, ds⟩ w' hd hfr hT hdep K hK
                  obtain rfl : ds = [] := hd
                  have hgv := hdep ⟨18, .guard⟩ (by simp) rfl _ rfl
                  change t.getD 33 undef = .bool false at hgv
                  have hg := getDb hgv
                  have hv0 := hdep ⟨22, .data⟩ (by simp) rfl _ rfl
                  change t.getD 37 undef = .pointer (some ⟨b1, o1 + k * 5 + 1, none⟩) at hv0
                  obtain ⟨p0, p1, p2, p3, p4⟩ := HD.out.below hT (Nat.le_refl _)
                  go_simp
                  exact hK _ _ hT (fun _ _ h => h) rfl
                · rintro ⟨t, ds⟩ w' hd hfr hT hdep K hK
                  obtain rfl : ds = [] := hd
                  have hgv := hdep ⟨18, .guard⟩ (by simp) rfl _ rfl
                  change t.getD 33 undef = .bool false at hgv
                  have hg := getDb hgv
                  have hv0 := hfr 2 rfl
                  change t.getD 2 undef = .int .i64 g at hv0
                  go_simp
                  exact hK _ _ hT (fun _ _ h => h) rfl
                · rintro ⟨t, ds⟩ w' hd hfr hT hdep K hK
                  obtain rfl : ds = [] := hd
                  have hgv := hdep ⟨18, .guard⟩ (by simp) rfl _ rfl
                  change t.getD 33 undef = .bool false at hgv
                  have hg := getDb hgv
                  have hv0 := hdep ⟨23, .data⟩ (by simp) rfl _ rfl
                  change t.getD 38 undef = .int .i64 x2 at hv0
                  have hv1 := hdep ⟨24, .data⟩ (by simp) rfl _ rfl
                  change t.getD 39 undef = .int .i64 g at hv1
                  go_simp
                  exact hK _ _ hT (fun _ _ h => h) rfl
                · rintro ⟨t, ds⟩ w' hd hfr hT hdep K hK
                  obtain rfl : ds = [] := hd
                  have hgv := hdep ⟨15, .guard⟩ (by simp) rfl _ rfl
                  change t.getD 30 undef = .bool true at hgv
                  have hg := getDb hgv
                  have hv0 := hdep ⟨18, .data⟩ (by simp) rfl _ rfl
                  change t.getD 33 undef = .bool false at hv0
                  have hv1 := hdep ⟨25, .data⟩ (by simp) rfl _ rfl
                  change t.getD 40 undef = .bool false at hv1
                  go_simp
                  exact hK _ _ hT (fun _ _ h => h) rfl
                · rintro ⟨t, ds⟩ w' hd hfr hT hdep K hK
                  obtain rfl : ds = [] := hd
                  have hv0 := hdep ⟨15, .data⟩ (by simp) rfl _ rfl
                  change t.getD 30 undef = .bool true at hv0
                  have hv1 := hdep ⟨26, .data⟩ (by simp) rfl _ rfl
                  change t.getD 41 undef = .bool false at hv1
                  go_simp
                  exact hK _ _ hT (fun _ _ h => h) rfl
              · rename_i Kc hKc
                rintro ⟨t, ds⟩ w' hd hsz hfr hT hall
                refine hKc _ _ ?_
                clear hKc Kc
                obtain rfl : ds = [] := hd
                have ht := tmps_lit t 52 hsz
                have f0 : t.getD 0 undef = .agg #[v0] := hfr 0 rfl
                have f1 : t.getD 1 undef = .slice (some ⟨b1, o1, none⟩) n c := hfr 1 rfl
                have f2 : t.getD 2 undef = .int .i64 g := hfr 2 rfl
                have f3 : t.getD 3 undef = .pointer (some ⟨w.heap.size, 0, none⟩) := hfr 3 rfl
                have f4 : t.getD 4 undef = undef := hfr 4 rfl
                have f5 : t.getD 5 undef = undef := hfr 5 rfl
                have f6 : t.getD 6 undef = .slice none 0 0 := hfr 6 rfl
                have f7 : t.getD 7 undef = u7 := hfr 7 rfl
                have f8 : t.getD 8 undef = .int .i64 k := hfr 8 rfl
                have f51 : t.getD 51 undef = undef := hfr 51 rfl
                have f42 : t.getD 42 undef = .bool false := hall 27 _ rfl
                simp only [f0, f1, f2, f3, f4, f5, f6, f7, f8, f51, f42, List.range, List.range.loop, List.map] at ht
                rw [ht]
                have HTT := Lib.hid hT
                clear ht f0 f1 f2 f3 f4 f5 f6 f7 f8 f51 f42 hfr hall hsz hT
                generalize t.getD 9 undef = z9
                generalize t.getD 10 undef = z10
                generalize t.getD 11 undef = z11
                generalize t.getD 12 undef = z12
                generalize t.getD 13 undef = z13
                generalize t.getD 14 undef = z14
                generalize t.getD 15 undef = z15
                generalize t.getD 16 undef = z16
                generalize t.getD 17 undef = z17
                generalize t.getD 18 undef = z18
                generalize t.getD 19 undef = z19
                generalize t.getD 20 undef = z20
                generalize t.getD 21 undef = z21
                generalize t.getD 22 undef = z22
                generalize t.getD 23 undef = z23
                generalize t.getD 24 undef = z24
                generalize t.getD 25 undef = z25
                generalize t.getD 26 undef = z26
                generalize t.getD 27 undef = z27
                generalize t.getD 28 undef = z28
                generalize t.getD 29 undef = z29
                generalize t.getD 30 undef = z30
                generalize t.getD 31 undef = z31
                generalize t.getD 32 undef = z32
                generalize t.getD 33 undef = z33
                generalize t.getD 34 undef = z34
                generalize t.getD 35 undef = z35
                generalize t.getD 36 undef = z36
                generalize t.getD 37 undef = z37
                generalize t.getD 38 undef = z38
                generalize t.getD 39 undef = z39
                generalize t.getD 40 undef = z40
                generalize t.getD 41 undef = z41
                generalize t.getD 43 undef = z43
                generalize t.getD 44 undef = z44
                generalize t.getD 45 undef = z45
                generalize t.getD 46 undef = z46
                generalize t.getD 47 undef = z47
                generalize t.getD 48 undef = z48
                generalize t.getD 49 undef = z49
                generalize t.getD 50 undef = z50
                have hown2 := row_below HOWN.out (below_pre HTT.out) (Nat.le_refl _)
                have HB2 := Lib.hid (hb.out.trans (below_pre (HTT.out.mono hb.out.size)))
                have hz2 := HB2.out.size
                have HOW2 := Lib.hid hown2
                clear hown2
                go_wp2_with fail
                go_roundw
                case rel => exact ⟨k + 1, m, by omega, by go_num, by omega, by rw [HNN.out]; exact HOW2.out, HB2⟩
                case measure => simp [intOf]; omega
        · have ho2 : (opAt p x3 x4 == 15) = false := by simpa using ho15
          have HNN := Lib.hid (HNO.out (by rw [HE.out]; simp [ho15]))
          clear ho15
          go_upto_region 5 with fail
          refine wp_region_inv (by kernel_rfl) 52 rfl (by kernel_rfl) (fun x y => Below wr.drew.heap.size x y) (RVals [.slice (some ⟨b1, o1, none⟩) n c, .int .i64 k, .pointer (some ⟨b1, o1 + k * 5, none⟩), .pointer (some ⟨b1, o1 + k * 5, none⟩), .int .i64 2, .bool true, .bool true, .agg #[v0], .slice (some ⟨b1, o1, none⟩) n c, .int .i64 k, .pointer (some ⟨b1, o1 + k * 5, none⟩), .agg #[.int .i64 2, .int .i64 x2, .int .i64 x3, .int .i64 x4, .int .i64 x5], .int .i64 (opAt p x3 x4), .bool false, .bool false, .bool false, undef, undef, undef, undef, undef, undef, undef, undef, undef, undef, undef, .bool false]) (Below.refl _ _) ?_ ?_
          · refine ⟨?_, ?_, ?_, ?_, ?_, ?_, ?_, ?_, ?_, ?_, ?_, ?_, ?_, ?_, ?_, ?_, ?_, ?_, ?_, ?_, ?_, ?_, ?_, ?_, ?_, ?_, ?_, ?_, trivial⟩
            · rintro ⟨t, ds⟩ w' hd hfr hT hdep K hK
              obtain rfl : ds = [] := hd
              have hv0 := hfr 1 rfl
              change t.getD 1 undef = .slice (some ⟨b1, o1, none⟩) n c at hv0
              go_simp
              exact hK _ _ hT (fun _ _ h => h) rfl
            · rintro ⟨t, ds⟩ w' hd hfr hT hdep K hK
              obtain rfl : ds = [] := hd
              have hv0 := hfr 8 rfl
              change t.getD 8 undef = .int .i64 k at hv0
              go_simp
              exact hK _ _ hT (fun _ _ h => h) rfl
            · rintro ⟨t, ds⟩ w' hd hfr hT hdep K hK
              obtain rfl : ds = [] := hd
              have hv0 := hdep ⟨0, .data⟩ (by simp) rfl _ rfl
              change t.getD 15 undef = .slice (some ⟨b1, o1, none⟩) n c at hv0
              have hv1 := hdep ⟨1, .data⟩ (by simp) rfl _ rfl
              change t.getD 16 undef = .int .i64 k at hv1
              go_simp
              exact hK _ _ hT (fun _ _ h => h) rfl
            · rintro ⟨t, ds⟩ w' hd hfr hT hdep K hK
              obtain rfl : ds = [] := hd
              have hv0 := hdep ⟨2, .data⟩ (by simp) rfl _ rfl
              change t.getD 17 undef = .pointer (some ⟨b1, o1 + k * 5, none⟩) at hv0
              go_simp
              exact hK _ _ hT (fun _ _ h => h) rfl
            · rintro ⟨t, ds⟩ w' hd hfr hT hdep K hK
              obtain rfl : ds = [] := hd
              have hv0 := hdep ⟨3, .data⟩ (by simp) rfl _ rfl
              change t.getD 18 undef = .pointer (some ⟨b1, o1 + k * 5, none⟩) at hv0
              obtain ⟨p0, p1, p2, p3, p4⟩ := HD.out.below hT (Nat.le_refl _)
              go_simp
              exact hK _ _ hT (fun _ _ h => h) rfl
            · rintro ⟨t, ds⟩ w' hd hfr hT hdep K hK
              obtain rfl : ds = [] := hd
              have hv0 := hdep ⟨4, .data⟩ (by simp) rfl _ rfl
              change t.getD 19 undef = .int .i64 2 at hv0
              go_simp
              exact hK _ _ hT (fun _ _ h => h) rfl
            · rintro ⟨t, ds⟩ w' hd hfr hT hdep K hK
              obtain rfl : ds = [] := hd
              have hv0 := hdep ⟨5, .data⟩ (by simp) rfl _ rfl
              change t.getD 20 undef = .bool true at hv0
              go_simp
              exact hK _ _ hT (fun _ _ h => h) rfl
            · rintro ⟨t, ds⟩ w' hd hfr hT hdep K hK
              obtain rfl : ds = [] := hd
              have hgv := hdep ⟨6, .guard⟩ (by simp) rfl _ rfl
              change t.getD 21 undef = .bool true at hgv
              have hg := getDb hgv
              have pb := below_cell hT (Nat.le_refl _) HCW.out
              have hv9 := hfr 3 rfl
              change t.getD 3 undef = .pointer (some ⟨w.heap.size, 0, none⟩) at hv9
              go_simp
              exact hK _ _ hT (fun _ _ h => h) rfl
            · rintro ⟨t, ds⟩ w' hd hfr hT hdep K hK
              obtain rfl : ds = [] := hd
              have hgv := hdep ⟨6, .guard⟩ (by simp) rfl _ rfl
              change t.getD 21 undef = .bool true at hgv
              have hg := getDb hgv
              have hv0 := hfr 1 rfl
              change t.getD 1 undef = .slice (some ⟨b1, o1, none⟩) n c at hv0
              go_simp
              exact hK _ _ hT (fun _ _ h => h) rfl
            · rintro ⟨t, ds⟩ w' hd hfr hT hdep K hK
              obtain rfl : ds = [] := hd
              have hgv := hdep ⟨6, .guard⟩ (by simp) rfl _ rfl
              change t.getD 21 undef = .bool true at hgv
              have hg := getDb hgv
              have hv0 := hfr 8 rfl
              change t.getD 8 undef = .int .i64 k at hv0
              go_simp
              exact hK _ _ hT (fun _ _ h => h) rfl
            · rintro ⟨t, ds⟩ w' hd hfr hT hdep K hK
              obtain rfl : ds = [] := hd
              have hgv := hdep ⟨6, .guard⟩ (by simp) rfl _ rfl
              change t.getD 21 undef = .bool true at hgv
              have hg := getDb hgv
              have hv0 := hdep ⟨8, .data⟩ (by simp) rfl _ rfl
              change t.getD 23 undef = .slice (some ⟨b1, o1, none⟩) n c at hv0
              have hv1 := hdep ⟨9, .data⟩ (by simp) rfl _ rfl
              change t.getD 24 undef = .int .i64 k at hv1
              go_simp
              exact hK _ _ hT (fun _ _ h => h) rfl
            · rintro ⟨t, ds⟩ w' hd hfr hT hdep K hK
              obtain rfl : ds = [] := hd
              have hgv := hdep ⟨6, .guard⟩ (by simp) rfl _ rfl
              change t.getD 21 undef = .bool true at hgv
              have hg := getDb hgv
              have hv0 := hdep ⟨10, .data⟩ (by simp) rfl _ rfl
              change t.getD 25 undef = .pointer (some ⟨b1, o1 + k * 5, none⟩) at hv0
              obtain ⟨p0, p1, p2, p3, p4⟩ := HD.out.below hT (Nat.le_refl _)
              go_simp
              exact hK _ _ hT (fun _ _ h => h) rfl
            · rintro ⟨t, ds⟩ w' hd hfr hT hdep K hK
              obtain rfl : ds = [] := hd
              have hgv := hdep ⟨6, .guard⟩ (by simp) rfl _ rfl
              change t.getD 21 undef = .bool true at hgv
              have hg := getDb hgv
              have hv0 := hdep ⟨7, .data⟩ (by simp) rfl _ rfl
              change t.getD 22 undef = .agg #[v0] at hv0
              have hv1 := hdep ⟨11, .data⟩ (by simp) rfl _ rfl
              change t.getD 26 undef = .agg #[.int .i64 2, .int .i64 x2, .int .i64 x3, .int .i64 x4, .int .i64 x5] at hv1
              go_simp
              refine (HOP.out w' ⟨2, x2, x3, x4, x5⟩ (HBW.out.trans (below_pre (hT.mono HBW.out.size)))).mono ?_
              rintro e wq ⟨rfl, hbq⟩
              exact hK _ _ (hT.trans (hbq.mono hT.size)) (fun _ _ h => h) rfl
            · rintro ⟨t, ds⟩ w' hd hfr hT hdep K hK
              obtain rfl : ds = [] := hd
              have hgv := hdep ⟨6, .guard⟩ (by simp) rfl _ rfl
              change t.getD 21 undef = .bool true at hgv
              have hg := getDb hgv
              have hv0 := hdep ⟨12, .data⟩ (by simp) rfl _ rfl
              change t.getD 27 undef = .int .i64 (opAt p x3 x4) at hv0
              go_simp
              exact hK _ _ hT (fun _ _ h => h) rfl
            · rintro ⟨t, ds⟩ w' hd hfr hT hdep K hK
              obtain rfl : ds = [] := hd
              have hv0 := hdep ⟨6, .data⟩ (by simp) rfl _ rfl
              change t.getD 21 undef = .bool true at hv0
              have hv1 := hdep ⟨13, .data⟩ (by simp) rfl _ rfl
              change t.getD 28 undef = .bool false at hv1
              go_simp
              exact hK _ _ hT (fun _ _ h => h) rfl
            · rintro ⟨t, ds⟩ w' hd hfr hT hdep K hK
              obtain rfl : ds = [] := hd
              have hv0 := hdep ⟨14, .data⟩ (by simp) rfl _ rfl
              change t.getD 29 undef = .bool false at hv0
              go_simp
              exact hK _ _ hT (fun _ _ h => h) rfl
            · rintro ⟨t, ds⟩ w' hd hfr hT hdep K hK
              obtain rfl : ds = [] := hd
              have hgv := hdep ⟨15, .guard⟩ (by simp) rfl _ rfl
              change t.getD 30 undef = .bool false at hgv
              have hg := getDb hgv
              go_simp
              exact hK undef _ hT (fun _ _ h => h) rfl
            · rintro ⟨t, ds⟩ w' hd hfr hT hdep K hK
              obtain rfl : ds = [] := hd
              have hgv := hdep ⟨15, .guard⟩ (by simp) rfl _ rfl
              change t.getD 30 undef = .bool false at hgv
              have hg := getDb hgv
              go_simp
              exact hK undef _ hT (fun _ _ h => h) rfl
            · rintro ⟨t, ds⟩ w' hd hfr hT hdep K hK
              obtain rfl : ds = [] := hd
              have hgv := hdep ⟨15, .guard⟩ (by simp) rfl _ rfl
              change t.getD 30 undef = .bool false at hgv
              have hg := getDb hgv
              go_simp
              exact hK undef _ hT (fun _ _ h => h) rfl
            · rintro ⟨t, ds⟩ w' hd hfr hT hdep K hK
              obtain rfl : ds = [] := hd
              have hgv := hdep ⟨18, .guard⟩ (by simp) rfl _ rfl
              change t.getD 33 undef = undef at hgv
              rcases getD_undef hgv with hg | hg
              all_goals (go_simp; exact hK undef _ hT (fun _ _ h => h) rfl)
            · rintro ⟨t, ds⟩ w' hd hfr hT hdep K hK
              obtain rfl : ds = [] := hd
              have hgv := hdep ⟨18, .guard⟩ (by simp) rfl _ rfl
              change t.getD 33 undef = undef at hgv
              rcases getD_undef hgv with hg | hg
              all_goals (go_simp; exact hK undef _ hT (fun _ _ h => h) rfl)
            · rintro ⟨t, ds⟩ w' hd hfr hT hdep K hK
              obtain rfl : ds = [] := hd
              have hgv := hdep ⟨18, .guard⟩ (by simp) rfl _ rfl
              change t.getD 33 undef = undef at hgv
              rcases getD_undef hgv with hg | hg
              all_goals (go_simp; exact hK undef _ hT (fun _ _ h => h) rfl)
            · rintro ⟨t, ds⟩ w' hd hfr hT hdep K hK
              obtain rfl : ds = [] := hd
              have hgv := hdep ⟨18, .guard⟩ (by simp) rfl _ rfl
              change t.getD 33 undef = undef at hgv
              rcases getD_undef hgv with hg | hg
              all_goals (go_simp; exact hK undef _ hT (fun _ _ h => h) rfl)
            · rintro ⟨t, ds⟩ w' hd hfr hT hdep K hK
              obtain rfl : ds = [] := hd
              have hgv := hdep ⟨18, .guard⟩ (by simp) rfl _ rfl
              change t.getD 33 undef = undef at hgv
              rcases getD_undef hgv with hg | hg
              all_goals (go_simp; exact hK undef _ hT (fun _ _ h => h) rfl)
            · rintro ⟨t, ds⟩ w' hd hfr hT hdep K hK
              obtain rfl : ds = [] := hd
              have hgv := hdep ⟨18, .guard⟩ (by simp) rfl _ rfl
              change t.getD 33 undef = undef at hgv
              rcases getD_undef hgv with hg | hg
              all_goals (go_simp; exact hK undef _ hT (fun _ _ h => h) rfl)
            · rintro ⟨t, ds⟩ w' hd hfr hT hdep K hK
              obtain rfl : ds = [] := hd
              have hgv := hdep ⟨18, .guard⟩ (by simp) rfl _ rfl
              change t.getD 33 undef = undef at hgv
              rcases getD_undef hgv with hg | hg
              all_goals (go_simp; exact hK undef _ hT (fun _ _ h => h) rfl)
            · rintro ⟨t, ds⟩ w' hd hfr hT hdep K hK
              obtain rfl : ds = [] := hd
              have hgv := hdep ⟨15, .guard⟩ (by simp) rfl _ rfl
              change t.getD 30 undef = .bool false at hgv
              have hg := getDb hgv
              go_simp
              exact hK undef _ hT (fun _ _ h => h) rfl
            · rintro ⟨t, ds⟩ w' hd hfr hT hdep K hK
              obtain rfl : ds = [] := hd
              have hv0 := hdep ⟨15, .data⟩ (by simp) rfl _ rfl
              change t.getD 30 undef = .bool false at hv0
              have hv1 := hdep ⟨26, .data⟩ (by simp) rfl _ rfl
              change t.getD 41 undef = undef at hv1
              go_simp
              exact hK _ _ hT (fun _ _ h => h) rfl
          · rename_i Kc hKc
            rintro ⟨t, ds⟩ w' hd hsz hfr hT hall
            refine hKc _ _ ?_
            clear hKc Kc
            obtain rfl : ds = [] := hd
            have ht := tmps_lit t 52 hsz
            have f0 : t.getD 0 undef = .agg #[v0] := hfr 0 rfl
            have f1 : t.getD 1 undef = .slice (some ⟨b1, o1, none⟩) n c := hfr 1 rfl
            have f2 : t.getD 2 undef = .int .i64 g := hfr 2 rfl
            have f3 : t.getD 3 undef = .pointer (some ⟨w.heap.size, 0, none⟩) := hfr 3 rfl
            have f4 : t.getD 4 undef = undef := hfr 4 rfl
            have f5 : t.getD 5 undef = undef := hfr 5 rfl
            have f6 : t.getD 6 undef = .slice none 0 0 := hfr 6 rfl
            have f7 : t.getD 7 undef = u7 := hfr 7 rfl
            have f8 : t.getD 8 undef = .int .i64 k := hfr 8 rfl
            have f51 : t.getD 51 undef = undef := hfr 51 rfl
            have f42 : t.getD 42 undef = .bool false := hall 27 _ rfl
            simp only [f0, f1, f2, f3, f4, f5, f6, f7, f8, f51, f42, List.range, List.range.loop, List.map] at ht
            rw [ht]
            have HTT := Lib.hid hT
            clear ht f0 f1 f2 f3 f4 f5 f6 f7 f8 f51 f42 hfr hall hsz hT
            generalize t.getD 9 undef = z9
            generalize t.getD 10 undef = z10
            generalize t.getD 11 undef = z11
            generalize t.getD 12 undef = z12
            generalize t.getD 13 undef = z13
            generalize t.getD 14 undef = z14
            generalize t.getD 15 undef = z15
            generalize t.getD 16 undef = z16
            generalize t.getD 17 undef = z17
            generalize t.getD 18 undef = z18
            generalize t.getD 19 undef = z19
            generalize t.getD 20 undef = z20
            generalize t.getD 21 undef = z21
            generalize t.getD 22 undef = z22
            generalize t.getD 23 undef = z23
            generalize t.getD 24 undef = z24
            generalize t.getD 25 undef = z25
            generalize t.getD 26 undef = z26
            generalize t.getD 27 undef = z27
            generalize t.getD 28 undef = z28
            generalize t.getD 29 undef = z29
            generalize t.getD 30 undef = z30
            generalize t.getD 31 undef = z31
            generalize t.getD 32 undef = z32
            generalize t.getD 33 undef = z33
            generalize t.getD 34 undef = z34
            generalize t.getD 35 undef = z35
            generalize t.getD 36 undef = z36
            generalize t.getD 37 undef = z37
            generalize t.getD 38 undef = z38
            generalize t.getD 39 undef = z39
            generalize t.getD 40 undef = z40
            generalize t.getD 41 undef = z41
            generalize t.getD 43 undef = z43
            generalize t.getD 44 undef = z44
            generalize t.getD 45 undef = z45
            generalize t.getD 46 undef = z46
            generalize t.getD 47 undef = z47
            generalize t.getD 48 undef = z48
            generalize t.getD 49 undef = z49
            generalize t.getD 50 undef = z50
            have hown2 := row_below HOWN.out (below_pre HTT.out) (Nat.le_refl _)
            have HB2 := Lib.hid (hb.out.trans (below_pre (HTT.out.mono hb.out.size)))
            have hz2 := HB2.out.size
            have HOW2 := Lib.hid hown2
            clear hown2
            go_wp2_with fail
            go_roundw
            case rel => exact ⟨k + 1, m, by omega, by go_num, by omega, by rw [HNN.out]; exact HOW2.out, HB2⟩
            case measure => simp [intOf]; omega
      · have hk3 : (x1 == 2) = false := by simpa using hk2
        have HNN := Lib.hid (HNO.out (by simp [emitC, hk2]))
        clear hk2
        go_upto_region 5 with fail
        refine wp_region_inv (by kernel_rfl) 52 rfl (by kernel_rfl) (fun x y => Below wr.drew.heap.size x y) (RVals [.slice (some ⟨b1, o1, none⟩) n c, .int .i64 k, .pointer (some ⟨b1, o1 + k * 5, none⟩), .pointer (some ⟨b1, o1 + k * 5, none⟩), .int .i64 x1, .bool false, .bool false, undef, undef, undef, undef, undef, undef, undef, .bool false, .bool false, undef, undef, undef, undef, undef, undef, undef, undef, undef, undef, undef, .bool false]) (Below.refl _ _) ?_ ?_
        · refine ⟨?_, ?_, ?_, ?_, ?_, ?_, ?_, ?_, ?_, ?_, ?_, ?_, ?_, ?_, ?_, ?_, ?_, ?_, ?_, ?_, ?_, ?_, ?_, ?_, ?_, ?_, ?_, ?_, trivial⟩
          · rintro ⟨t, ds⟩ w' hd hfr hT hdep K hK
            obtain rfl : ds = [] := hd
            have hv0 := hfr 1 rfl
            change t.getD 1 undef = .slice (some ⟨b1, o1, none⟩) n c at hv0
            go_simp
            exact hK _ _ hT (fun _ _ h => h) rfl
          · rintro ⟨t, ds⟩ w' hd hfr hT hdep K hK
            obtain rfl : ds = [] := hd
            have hv0 := hfr 8 rfl
            change t.getD 8 undef = .int .i64 k at hv0
            go_simp
            exact hK _ _ hT (fun _ _ h => h) rfl
          · rintro ⟨t, ds⟩ w' hd hfr hT hdep K hK
            obtain rfl : ds = [] := hd
            have hv0 := hdep ⟨0, .data⟩ (by simp) rfl _ rfl
            change t.getD 15 undef = .slice (some ⟨b1, o1, none⟩) n c at hv0
            have hv1 := hdep ⟨1, .data⟩ (by simp) rfl _ rfl
            change t.getD 16 undef = .int .i64 k at hv1
            go_simp
            exact hK _ _ hT (fun _ _ h => h) rfl
          · rintro ⟨t, ds⟩ w' hd hfr hT hdep K hK
            obtain rfl : ds = [] := hd
            have hv0 := hdep ⟨2, .data⟩ (by simp) rfl _ rfl
            change t.getD 17 undef = .pointer (some ⟨b1, o1 + k * 5, none⟩) at hv0
            go_simp
            exact hK _ _ hT (fun _ _ h => h) rfl
          · rintro ⟨t, ds⟩ w' hd hfr hT hdep K hK
            obtain rfl : ds = [] := hd
            have hv0 := hdep ⟨3, .data⟩ (by simp) rfl _ rfl
            change t.getD 18 undef = .pointer (some ⟨b1, o1 + k * 5, none⟩) at hv0
            obtain ⟨p0, p1, p2, p3, p4⟩ := HD.out.below hT (Nat.le_refl _)
            go_simp
            exact hK _ _ hT (fun _ _ h => h) rfl
          · rintro ⟨t, ds⟩ w' hd hfr hT hdep K hK
            obtain rfl : ds = [] := hd
            have hv0 := hdep ⟨4, .data⟩ (by simp) rfl _ rfl
            change t.getD 19 undef = .int .i64 x1 at hv0
            go_simp
            exact hK _ _ hT (fun _ _ h => h) rfl
          · rintro ⟨t, ds⟩ w' hd hfr hT hdep K hK
            obtain rfl : ds = [] := hd
            have hv0 := hdep ⟨5, .data⟩ (by simp) rfl _ rfl
            change t.getD 20 undef = .bool false at hv0
            go_simp
            exact hK _ _ hT (fun _ _ h => h) rfl
          · rintro ⟨t, ds⟩ w' hd hfr hT hdep K hK
            obtain rfl : ds = [] := hd
            have hgv := hdep ⟨6, .guard⟩ (by simp) rfl _ rfl
            change t.getD 21 undef = .bool false at hgv
            have hg := getDb hgv
            go_simp
            exact hK undef _ hT (fun _ _ h => h) rfl
          · rintro ⟨t, ds⟩ w' hd hfr hT hdep K hK
            obtain rfl : ds = [] := hd
            have hgv := hdep ⟨6, .guard⟩ (by simp) rfl _ rfl
            change t.getD 21 undef = .bool false at hgv
            have hg := getDb hgv
            go_simp
            exact hK undef _ hT (fun _ _ h => h) rfl
          · rintro ⟨t, ds⟩ w' hd hfr hT hdep K hK
            obtain rfl : ds = [] := hd
            have hgv := hdep ⟨6, .guard⟩ (by simp) rfl _ rfl
            change t.getD 21 undef = .bool false at hgv
            have hg := getDb hgv
            go_simp
            exact hK undef _ hT (fun _ _ h => h) rfl
          · rintro ⟨t, ds⟩ w' hd hfr hT hdep K hK
            obtain rfl : ds = [] := hd
            have hgv := hdep ⟨6, .guard⟩ (by simp) rfl _ rfl
            change t.getD 21 undef = .bool false at hgv
            have hg := getDb hgv
            go_simp
            exact hK undef _ hT (fun _ _ h => h) rfl
          · rintro ⟨t, ds⟩ w' hd hfr hT hdep K hK
            obtain rfl : ds = [] := hd
            have hgv := hdep ⟨6, .guard⟩ (by simp) rfl _ rfl
            change t.getD 21 undef = .bool false at hgv
            have hg := getDb hgv
            go_simp
            exact hK undef _ hT (fun _ _ h => h) rfl
          · rintro ⟨t, ds⟩ w' hd hfr hT hdep K hK
            obtain rfl : ds = [] := hd
            have hgv := hdep ⟨6, .guard⟩ (by simp) rfl _ rfl
            change t.getD 21 undef = .bool false at hgv
            have hg := getDb hgv
            go_simp
            exact hK undef _ hT (fun _ _ h => h) rfl
          · rintro ⟨t, ds⟩ w' hd hfr hT hdep K hK
            obtain rfl : ds = [] := hd
            have hgv := hdep ⟨6, .guard⟩ (by simp) rfl _ rfl
            change t.getD 21 undef = .bool false at hgv
            have hg := getDb hgv
            go_simp
            exact hK undef _ hT (fun _ _ h => h) rfl
          · rintro ⟨t, ds⟩ w' hd hfr hT hdep K hK
            obtain rfl : ds = [] := hd
            have hv0 := hdep ⟨6, .data⟩ (by simp) rfl _ rfl
            change t.getD 21 undef = .bool false at hv0
            have hv1 := hdep ⟨13, .data⟩ (by simp) rfl _ rfl
            change t.getD 28 undef = undef at hv1
            go_simp
            exact hK _ _ hT (fun _ _ h => h) rfl
          · rintro ⟨t, ds⟩ w' hd hfr hT hdep K hK
            obtain rfl : ds = [] := hd
            have hv0 := hdep ⟨14, .data⟩ (by simp) rfl _ rfl
            change t.getD 29 undef = .bool false at hv0
            go_simp
            exact hK _ _ hT (fun _ _ h => h) rfl
          · rintro ⟨t, ds⟩ w' hd hfr hT hdep K hK
            obtain rfl : ds = [] := hd
            have hgv := hdep ⟨15, .guard⟩ (by simp) rfl _ rfl
            change t.getD 30 undef = .bool false at hgv
            have hg := getDb hgv
            go_simp
            exact hK undef _ hT (fun _ _ h => h) rfl
          · rintro ⟨t, ds⟩ w' hd hfr hT hdep K hK
            obtain rfl : ds = [] := hd
            have hgv := hdep ⟨15, .guard⟩ (by simp) rfl _ rfl
            change t.getD 30 undef = .bool false at hgv
            have hg := getDb hgv
            go_simp
            exact hK undef _ hT (fun _ _ h => h) rfl
          · rintro ⟨t, ds⟩ w' hd hfr hT hdep K hK
            obtain rfl : ds = [] := hd
            have hgv := hdep ⟨15, .guard⟩ (by simp) rfl _ rfl
            change t.getD 30 undef = .bool false at hgv
            have hg := getDb hgv
            go_simp
            exact hK undef _ hT (fun _ _ h => h) rfl
          · rintro ⟨t, ds⟩ w' hd hfr hT hdep K hK
            obtain rfl : ds = [] := hd
            have hgv := hdep ⟨18, .guard⟩ (by simp) rfl _ rfl
            change t.getD 33 undef = undef at hgv
            rcases getD_undef hgv with hg | hg
            all_goals (go_simp; exact hK undef _ hT (fun _ _ h => h) rfl)
          · rintro ⟨t, ds⟩ w' hd hfr hT hdep K hK
            obtain rfl : ds = [] := hd
            have hgv := hdep ⟨18, .guard⟩ (by simp) rfl _ rfl
            change t.getD 33 undef = undef at hgv
            rcases getD_undef hgv with hg | hg
            all_goals (go_simp; exact hK undef _ hT (fun _ _ h => h) rfl)
          · rintro ⟨t, ds⟩ w' hd hfr hT hdep K hK
            obtain rfl : ds = [] := hd
            have hgv := hdep ⟨18, .guard⟩ (by simp) rfl _ rfl
            change t.getD 33 undef = undef at hgv
            rcases getD_undef hgv with hg | hg
            all_goals (go_simp; exact hK undef _ hT (fun _ _ h => h) rfl)
          · rintro ⟨t, ds⟩ w' hd hfr hT hdep K hK
            obtain rfl : ds = [] := hd
            have hgv := hdep ⟨18, .guard⟩ (by simp) rfl _ rfl
            change t.getD 33 undef = undef at hgv
            rcases getD_undef hgv with hg | hg
            all_goals (go_simp; exact hK undef _ hT (fun _ _ h => h) rfl)
          · rintro ⟨t, ds⟩ w' hd hfr hT hdep K hK
            obtain rfl : ds = [] := hd
            have hgv := hdep ⟨18, .guard⟩ (by simp) rfl _ rfl
            change t.getD 33 undef = undef at hgv
            rcases getD_undef hgv with hg | hg
            all_goals (go_simp; exact hK undef _ hT (fun _ _ h => h) rfl)
          · rintro ⟨t, ds⟩ w' hd hfr hT hdep K hK
            obtain rfl : ds = [] := hd
            have hgv := hdep ⟨18, .guard⟩ (by simp) rfl _ rfl
            change t.getD 33 undef = undef at hgv
            rcases getD_undef hgv with hg | hg
            all_goals (go_simp; exact hK undef _ hT (fun _ _ h => h) rfl)
          · rintro ⟨t, ds⟩ w' hd hfr hT hdep K hK
            obtain rfl : ds = [] := hd
            have hgv := hdep ⟨18, .guard⟩ (by simp) rfl _ rfl
            change t.getD 33 undef = undef at hgv
            rcases getD_undef hgv with hg | hg
            all_goals (go_simp; exact hK undef _ hT (fun _ _ h => h) rfl)
          · rintro ⟨t, ds⟩ w' hd hfr hT hdep K hK
            obtain rfl : ds = [] := hd
            have hgv := hdep ⟨15, .guard⟩ (by simp) rfl _ rfl
            change t.getD 30 undef = .bool false at hgv
            have hg := getDb hgv
            go_simp
            exact hK undef _ hT (fun _ _ h => h) rfl
          · rintro ⟨t, ds⟩ w' hd hfr hT hdep K hK
            obtain rfl : ds = [] := hd
            have hv0 := hdep ⟨15, .data⟩ (by simp) rfl _ rfl
            change t.getD 30 undef = .bool false at hv0
            have hv1 := hdep ⟨26, .data⟩ (by simp) rfl _ rfl
            change t.getD 41 undef = undef at hv1
            go_simp
            exact hK _ _ hT (fun _ _ h => h) rfl
        · rename_i Kc hKc
          rintro ⟨t, ds⟩ w' hd hsz hfr hT hall
          refine hKc _ _ ?_
          clear hKc Kc
          obtain rfl : ds = [] := hd
          have ht := tmps_lit t 52 hsz
          have f0 : t.getD 0 undef = .agg #[v0] := hfr 0 rfl
          have f1 : t.getD 1 undef = .slice (some ⟨b1, o1, none⟩) n c := hfr 1 rfl
          have f2 : t.getD 2 undef = .int .i64 g := hfr 2 rfl
          have f3 : t.getD 3 undef = .pointer (some ⟨w.heap.size, 0, none⟩) := hfr 3 rfl
          have f4 : t.getD 4 undef = undef := hfr 4 rfl
          have f5 : t.getD 5 undef = undef := hfr 5 rfl
          have f6 : t.getD 6 undef = .slice none 0 0 := hfr 6 rfl
          have f7 : t.getD 7 undef = u7 := hfr 7 rfl
          have f8 : t.getD 8 undef = .int .i64 k := hfr 8 rfl
          have f51 : t.getD 51 undef = undef := hfr 51 rfl
          have f42 : t.getD 42 undef = .bool false := hall 27 _ rfl
          simp only [f0, f1, f2, f3, f4, f5, f6, f7, f8, f51, f42, List.range, List.range.loop, List.map] at ht
          rw [ht]
          have HTT := Lib.hid hT
          clear ht f0 f1 f2 f3 f4 f5 f6 f7 f8 f51 f42 hfr hall hsz hT
          generalize t.getD 9 undef = z9
          generalize t.getD 10 undef = z10
          generalize t.getD 11 undef = z11
          generalize t.getD 12 undef = z12
          generalize t.getD 13 undef = z13
          generalize t.getD 14 undef = z14
          generalize t.getD 15 undef = z15
          generalize t.getD 16 undef = z16
          generalize t.getD 17 undef = z17
          generalize t.getD 18 undef = z18
          generalize t.getD 19 undef = z19
          generalize t.getD 20 undef = z20
          generalize t.getD 21 undef = z21
          generalize t.getD 22 undef = z22
          generalize t.getD 23 undef = z23
          generalize t.getD 24 undef = z24
          generalize t.getD 25 undef = z25
          generalize t.getD 26 undef = z26
          generalize t.getD 27 undef = z27
          generalize t.getD 28 undef = z28
          generalize t.getD 29 undef = z29
          generalize t.getD 30 undef = z30
          generalize t.getD 31 undef = z31
          generalize t.getD 32 undef = z32
          generalize t.getD 33 undef = z33
          generalize t.getD 34 undef = z34
          generalize t.getD 35 undef = z35
          generalize t.getD 36 undef = z36
          generalize t.getD 37 undef = z37
          generalize t.getD 38 undef = z38
          generalize t.getD 39 undef = z39
          generalize t.getD 40 undef = z40
          generalize t.getD 41 undef = z41
          generalize t.getD 43 undef = z43
          generalize t.getD 44 undef = z44
          generalize t.getD 45 undef = z45
          generalize t.getD 46 undef = z46
          generalize t.getD 47 undef = z47
          generalize t.getD 48 undef = z48
          generalize t.getD 49 undef = z49
          generalize t.getD 50 undef = z50
          have hown2 := row_below HOWN.out (below_pre HTT.out) (Nat.le_refl _)
          have HB2 := Lib.hid (hb.out.trans (below_pre (HTT.out.mono hb.out.size)))
          have hz2 := HB2.out.size
          have HOW2 := Lib.hid hown2
          clear hown2
          go_wp2_with fail
          go_roundw
          case rel => exact ⟨k + 1, m, by omega, by go_num, by omega, by rw [HNN.out]; exact HOW2.out, HB2⟩
          case measure => simp [intOf]; omega
    · have e : k = n := by omega
      have HE := Lib.hid e
      have HOWN := Lib.hid hown
      clear e hown
      go_wp2_with fail
      go_ret
      refine ⟨_, m, rfl, ?_, HBA.out.trans (hb.out.mono HBA.out.size)⟩
      have e1 : l.take k = l := by rw [HE.out, HN.out]; simp
      have := HOWN.out
      rw [e1] at this
      exact row_base this (by rw [HSZ.out]; omega)
end Go.Proofs.YtfcoigcenheefaaDoor
