import Derived.Test.YtfcoigcenheefaaDoorPkDel
set_option linter.unusedVariables false
set_option linter.unusedSimpArgs false
namespace Go.Proofs.YtfcoigcenheefaaDoor
open Go.RowKit
set_option maxRecDepth 100000 in
theorem of_any (w : World) (v : Value) (l : List Ev) (g : Int) (h : EvsAt w v l) (hl : l.length ≤ 1000) :
    Calls Tryd.prog 36 #[v, .int .i64 g] w fun e w' => ∃ v', e = .returned v' ∧ EvsAt w' v' (l.filter (keepE g)) ∧ Below w.heap.size w w' := by
  obtain ⟨wa, ha⟩ : ∃ wa, wa = (w.alloc (Obj.cells #[Value.int .i64 g] 3)) := ⟨_, rfl⟩
  have hba : Below w.heap.size w wa := by rw [ha]; exact (Below.refl _ _).alloc (Nat.le_refl _) _
  have hsz : wa.heap.size = w.heap.size + 1 := by rw [ha]; simp
  have c0 : wa.cell? ⟨w.heap.size, 0, none⟩ = some (.int .i64 g) := by rw [ha]; simp
  have HC := Lib.hid (clone_any wa v l (h.below hba (Nat.le_refl _)) hl)
  have HA := Lib.hid ha
  have HBA := Lib.hid hba
  have HC0 := Lib.hid c0
  have HSZ := Lib.hid hsz
  obtain ⟨a, c, rfl, _⟩ := h
  clear ha hba c0 hsz
  go_enter Tryd.func36, Tryd.ntmps36
  go_upto_region 1 with fail
  rw [← HA.out]
  go_wp2_with fail
  refine HC.out.mono ?_
  rintro e w1 ⟨v1, rfl, hown, hb1⟩
  have HD := Lib.hid (del_any w1 wa.heap.size v1 l hown hl w.heap.size g (below_cell hb1 (Nat.le_refl _) HC0.out) (fun e => by
    obtain ⟨_, _, q⟩ := row_block hown e
    have := HSZ.out
    omega))
  have HOW := Lib.hid hown
  have HB1 := Lib.hid (HBA.out.trans (hb1.mono HBA.out.size))
  clear hown hb1
  rename_i K1 K2 hK2
  refine hK2 _ _ ?_
  clear hK2
  go_wp2_with fail
  refine HD.out.mono ?_
  rintro e w2 ⟨v2, rfl, hev, hF⟩
  rename_i K3 K4 hK4
  refine hK4 _ _ ?_
  clear hK4
  go_wp2_with fail
  go_ret
  refine ⟨_, rfl, hev, HB1.out.trans (Frm.below hF HB1.out.size (fun q hq => ?_))⟩
  obtain ⟨_, _, q2⟩ := row_block HOW.out hq
  have := HSZ.out
  omega
theorem Tryd.info2 : (Tryd.prog.info? 2).map (fun i => (i.zero, i.size, i.bytes)) = some (some (.int .i64 0), 1, 8) := by kernel_rfl
def emitC (p : List Fn) (g : Int) (e : Ev) : Bool := decide (e.kind = 2) && (decide (opAt p e.fn e.pc = 15) && (decide (g = 0) || decide (e.g = g)))
def emL (p : List Fn) (g : Int) (l : List Ev) : List Int := (l.filter (emitC p g)).map Ev.n
theorem emL_yes {p : List Fn} {g : Int} {l : List Ev} {k : Nat} (hk : k < l.length) (h : emitC p g (l.getD k default) = true) : emL p g (l.take (k + 1)) = emL p g (l.take k) ++ [(l.getD k default).n] := by
  rw [take_succE hk, emL, emL, List.filter_append, List.map_append]
  congr 1
  simp only [List.filter_cons, h, List.filter_nil]
  rfl
theorem emL_no {p : List Fn} {g : Int} {l : List Ev} {k : Nat} (hk : k < l.length) (h : emitC p g (l.getD k default) = false) : emL p g (l.take (k + 1)) = emL p g (l.take k) := by
  rw [take_succE hk, emL, emL, List.filter_append, List.map_append]
  simp only [List.filter_cons, h, List.filter_nil]
  simp
theorem emL_len (p : List Fn) (g : Int) (l : List Ev) : (emL p g l).length ≤ l.length := by
  rw [emL, List.length_map]; exact List.length_filter_le _ _
set_option maxRecDepth 100000 in
set_option maxHeartbeats 2000000 in
theorem emits_any (w : World) (v0 v : Value) (p : List Fn) (l : List Ev) (g : Int) (hp : ProgAt w v0 p) (hpl : p.length ≤ 1000) (hq : ∀ i, i < p.length → (p.getD i default).1.length ≤ 1000) (h : EvsAt w v l) (hl : l.length ≤ 1000) :
    Calls Tryd.prog 38 #[.agg #[v0], v, .int .i64 g] w fun e w' => ∃ v' m, e = .returned v' ∧ w'.ownsRow w.heap.size 2 1 v' m ((emL p g l).map (Value.int .i64)) ∧ Below w.heap.size w w' := by
  obtain ⟨a, c, rfl, h2⟩ := h
  obtain ⟨n, hn⟩ : ∃ n, n = l.length := ⟨_, rfl⟩
  rw [← hn] at hl ⊢
  have HN := Lib.hid hn
  have H2 := Lib.hid h2
  have HP := Lib.hid hp
  obtain ⟨a0, c0, rfl, _⟩ := hp
  generalize hv0 : Value.slice a0 p.length c0 = v0 at HP ⊢
  have HV0 := Lib.hid hv0
  have HOP := Lib.hid (fun (wx : World) (x : Ev) (hb : Below w.heap.size w wx) => op_any wx v0 p x (HP.out.below hb (Nat.le_refl _)) hpl hq)
  obtain ⟨wa, ha⟩ : ∃ wa, wa = (w.alloc (Obj.cells #[v0] 44)) := ⟨_, rfl⟩
  have hba : Below w.heap.size w wa := by rw [ha]; exact (Below.refl _ _).alloc (Nat.le_refl _) _
  have hsz : wa.heap.size = w.heap.size + 1 := by rw [ha]; simp
  have cb : wa.cell? ⟨w.heap.size, 0, none⟩ = some v0 := by rw [ha]; simp
  have HA := Lib.hid ha
  have HBA := Lib.hid hba
  have HCB := Lib.hid cb
  have HSZ := Lib.hid hsz
  clear hn h2 hv0 hpl hq ha hba hsz cb
  go_enter Tryd.func38, Tryd.ntmps38
  go_upto_region 1 with fail
  rw [← HA.out]
  go_wp2_with fail
  go_loopw [6, 8, 11] (fun s6 s8 s11 wr => ∃ (k m : Nat), k ≤ n ∧ s11 = .int .i64 k ∧ m ≤ k ∧ wr.ownsRow wa.heap.size 2 1 s6 m ((emL p g (l.take k)).map (Value.int .i64)) ∧ Hid (Below wa.heap.size wa wr)) (fun _ _ s11 _ => n - (intOf s11).toNat)
  case atStart => exact ⟨0, 0, Nat.zero_le _, rfl, Nat.zero_le _, by simp [emL]; exact ⟨rfl, .inl ⟨rfl, rfl⟩⟩, Lib.hid (Below.refl _ _)⟩
  case round =>
    obtain ⟨k, m, hk, rfl, hmk, hown, hb⟩ := hrel
    have hz1 := hb.out.size
    by_cases hlt : k < n
    · have hkl : k < l.length := by have := HN.out; omega
      obtain ⟨b1, o1, rfl, q1⟩ := H2.out (by omega)
      have hbw : Below w.heap.size w wr := HBA.out.trans (hb.out.mono HBA.out.size)
      have d1 := (q1 k hkl).below hbw (Nat.le_refl _)
      clear q1
      have HY := Lib.hid (fun h => emL_yes (p := p) (g := g) hkl h)
      have HNO := Lib.hid (fun h => emL_no (p := p) (g := g) hkl h)
      obtain ⟨x, hx0⟩ : ∃ x, x = l.getD k default := ⟨_, rfl⟩
      rw [← hx0] at d1 HY HNO
      clear hx0
      obtain ⟨x1, x2, x3, x4, x5⟩ := x
      obtain ⟨p0, p1, p2, p3, p4⟩ := d1
      have k0 : (0 : Int) ≤ (k : Int) := by omega
      have k1 : (k : Int) < (n : Int) := by omega
      obtain ⟨wc, hc⟩ : ∃ wc, wc = (wr.alloc (Obj.cells #[Value.int .i64 x1, .int .i64 x2, .int .i64 x3, .int .i64 x4, .int .i64 x5] 38)) := ⟨_, rfl⟩
      have hbc : Below wa.heap.size wa wc := by rw [hc]; exact hb.out.alloc hz1 _
      have hcb : wc.cell? ⟨w.heap.size, 0, none⟩ = some v0 := below_cell hbc (Nat.le_refl _) HCB.out
      have e0 : wc.cell? ⟨wr.heap.size, 0, none⟩ = some (.int .i64 x1) := by rw [hc]; simp
      have e1 : wc.cell? ⟨wr.heap.size, 1, none⟩ = some (.int .i64 x2) := by rw [hc]; simp
      have e4 : wc.cell? ⟨wr.heap.size, 4, none⟩ = some (.int .i64 x5) := by rw [hc]; simp
      have e2 : wc.cell? ⟨wr.heap.size, 2, none⟩ = some (.int .i64 x3) := by rw [hc]; simp
      have e3 : wc.cell? ⟨wr.heap.size, 3, none⟩ = some (.int .i64 x4) := by rw [hc]; simp
      have HC := Lib.hid hc
      have HBC := Lib.hid hbc
      have HOWC : Hid (wc.ownsRow wa.heap.size 2 1 u6 m ((emL p g (l.take k)).map (Value.int .i64))) := Lib.hid (by rw [hc]; exact hown.alloc _)
      clear hc hbc hown hbw
      by_cases hk2 : x1 = 2
      · subst hk2
        go_upto_region 4 with fail
        rw [← HC.out]
        go_wp2_with fail
        refine (HOP.out wc ⟨2, x2, x3, x4, x5⟩ (HBA.out.trans (HBC.out.mono HBA.out.size))).mono ?_
        rintro e w2 ⟨rfl, hb2⟩
        have f0 := below_cell hb2 (Nat.le_refl _) e0
        have f1 := below_cell hb2 (Nat.le_refl _) e1
        have f4 := below_cell hb2 (Nat.le_refl _) e4
        have HB2 := Lib.hid (HBC.out.trans (hb2.mono HBC.out.size))
        have hown2 := row_below HOWC.out hb2 (Nat.le_refl _)
        have hz2 := HB2.out.size
        clear hb2 e0 e1 e2 e3 e4 p0 p1 p2 p3 p4
        rename_i K1 K2 hK2
        refine hK2 _ _ ?_
        clear hK2
        simp only []
        obtain ⟨o, ho⟩ : ∃ o, opAt p x3 x4 = o := ⟨_, rfl⟩
        have HE := Lib.hid (show emitC p g ⟨2, x2, x3, x4, x5⟩ = (decide (opAt p x3 x4 = 15) && (decide (g = 0) || decide (x2 = g))) by simp [emitC])
        rw [ho] at HE ⊢
        clear ho
        by_cases ho15 : o = 15
        · subst ho15
          by_cases hg : g = 0
          · subst hg
            have HYY := Lib.hid (HY.out (by rw [HE.out]; simp))
            go_wp2_with (at_builtin; refine wpList_app w2 2 [.int .i64 x5] rfl _ _ 53 rfl wa.heap.size (.int .i64 0) 1 8 Tryd.underlying53 Tryd.info2 rfl (by decide) _ _ _ rfl hown2 _ rfl (by simp) rfl rfl (by omega) (by omega) hz2 wa.heap.size wa HB2.out (Nat.le_refl _) ?_; intro gg cap w' hown' hb' _ _)
            go_roundw
            case rel => exact ⟨k + 1, m + 1, by omega, by go_num, by omega, by rw [HYY.out, List.map_append]; exact hown', Lib.hid hb'⟩
            case measure => simp [intOf]; omega
          · have hg2 : (g == 0) = false := by simpa using hg
            by_cases hgg : x2 = g
            · have HYY := Lib.hid (HY.out (by rw [HE.out]; simp [hgg]))
              subst hgg
              clear hg
              go_wp2_with (at_builtin; refine wpList_app w2 2 [.int .i64 x5] rfl _ _ 53 rfl wa.heap.size (.int .i64 0) 1 8 Tryd.underlying53 Tryd.info2 rfl (by decide) _ _ _ rfl hown2 _ rfl (by simp) rfl rfl (by omega) (by omega) hz2 wa.heap.size wa HB2.out (Nat.le_refl _) ?_; intro gg cap w' hown' hb' _ _)
              go_roundw
              case rel => exact ⟨k + 1, m + 1, by omega, by go_num, by omega, by rw [HYY.out, List.map_append]; exact hown', Lib.hid hb'⟩
              case measure => simp [intOf]; omega
            · have hgg2 : (x2 == g) = false := by simpa using hgg
              have HNN := Lib.hid (HNO.out (by rw [HE.out]; simp [hg, hgg]))
              have HOW2 := Lib.hid hown2
              clear hg hgg hown2
              go_wp2_with fail
              go_roundw
              case rel => exact ⟨k + 1, m, by omega, by go_num, by omega, by rw [HNN.out]; exact HOW2.out, HB2⟩
              case measure => simp [intOf]; omega
        · have ho2 : (o == 15) = false := by simpa using ho15
          have HNN := Lib.hid (HNO.out (by rw [HE.out]; simp [ho15]))
          have HOW2 := Lib.hid hown2
          clear ho15 hown2
          go_wp2_with fail
          go_roundw
          case rel => exact ⟨k + 1, m, by omega, by go_num, by omega, by rw [HNN.out]; exact HOW2.out, HB2⟩
          case measure => simp [intOf]; omega
      · have hk3 : (x1 == 2) = false := by simpa using hk2
        have HNN := Lib.hid (HNO.out (by simp [emitC, hk2]))
        clear hk2
        go_upto_region 4 with fail
        rw [← HC.out]
        go_wp2_with fail
        go_roundw
        case rel => exact ⟨k + 1, m, by omega, by go_num, by omega, by rw [HNN.out]; exact HOWC.out, HBC⟩
        case measure => simp [intOf]; omega
    · have e : k = n := by omega
      have HE := Lib.hid e
      have HOWN := Lib.hid hown
      clear e hown
      go_wp2_with fail
      go_ret
      refine ⟨_, m, rfl, ?_, HBA.out.trans (hb.out.mono HBA.out.size)⟩
      have e1 : l.take k = l := by rw [HE.out, HN.out]; simp
      have := HOWN.out
      rw [e1] at this
      exact row_base this (by rw [HSZ.out]; omega)
end Go.Proofs.YtfcoigcenheefaaDoor
