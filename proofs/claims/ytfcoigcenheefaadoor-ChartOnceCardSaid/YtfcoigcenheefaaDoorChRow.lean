import Derived.Test.YtfcoigcenheefaaDoorChSign
import Derived.Test.YtfcoigcenheefaaDoorEvPrint
set_option linter.unusedVariables false
set_option linter.unusedSimpArgs false
namespace Go.Proofs.YtfcoigcenheefaaDoor
open Go.RowKit
theorem rowc_any (B b : Nat) (bs : List UInt8) (c : Nat) (hc : c < 128) (w : World) (h : Lib.IsBuilder 106 5 B b (Lib.byteCells bs) w) (hlen : bs.length ≤ 1000) (hBw : B ≤ w.heap.size) :
    Calls Tryd.prog 177 #[.int .u8 c, .pointer (some ⟨b, 0, none⟩)] w fun e w' => e = .returned (.tuple #[]) ∧ (Lib.IsBuilder 106 5 B b (Lib.byteCells (bs ++ [UInt8.ofNat c])) w' ∧ Below B w w') := by
  have HW := Lib.hid (writeByte_any B b (Lib.byteCells bs) c w h (by rw [Lib.byteCells_length]; exact hlen) hBw)
  have hcl : Hid (Lib.byteCells bs ++ [Value.int .u8 c] = Lib.byteCells (bs ++ [UInt8.ofNat c])) := Lib.hid (by simp [Lib.byteCells]; omega)
  clear h
  go_enter Tryd.func177, Tryd.ntmps177
  go_wp2_with fail
  refine HW.out.mono ?_
  rintro e w1 ⟨rfl, hB, hb⟩
  rename_i K1 K2 hK2
  refine hK2 _ _ ?_
  clear hK2
  go_wp2_with fail
  go_end0
  exact ⟨rfl, Or.inr (hcl.out ▸ hB), hb⟩
set_option maxRecDepth 100000 in
set_option maxHeartbeats 2000000 in
theorem row_any (w : World) (v0 v : Value) (p : List Fn) (l : List Ev) (g : Int) (rows : List RowD) (hp : ProgAt w v0 p) (hpl : p.length ≤ 1000) (hq : ∀ i, i < p.length → (p.getD i default).1.length ≤ 1000) (ht : RowTab w rows) (h : EvsAt w v l) (hl : l.length ≤ 500) :
    Calls Tryd.prog 118 #[.agg #[v0], v, .int .i64 g] w fun e w' => ∃ bs : List UInt8, e = .returned (.string ⟨bs.toArray⟩) ∧ bs.length = l.length ∧ (∀ t, t < l.length → (bs.getD t 0 ≠ 32 ↔ (l.getD t default).g = g)) ∧ Below w.heap.size w w' := by
  obtain ⟨a, c, rfl, h2⟩ := h
  obtain ⟨n, hn⟩ : ∃ n, n = l.length := ⟨_, rfl⟩
  rw [← hn] at hl ⊢
  have HN := Lib.hid hn
  have H2 := Lib.hid h2
  have HSG := Lib.hid (fun (wx : World) (x : Ev) (hb : Below w.heap.size w wx) => sign_any wx v0 p x rows (hp.below hb (Nat.le_refl _)) hpl hq (ht.below hb (Nat.le_refl _)))
  obtain ⟨wa, ha⟩ : ∃ wa, wa = (w.alloc (Obj.cells #[v0] 44)) := ⟨_, rfl⟩
  have hba : Below w.heap.size w wa := by rw [ha]; exact (Below.refl _ _).alloc (Nat.le_refl _) _
  have hsz : wa.heap.size = w.heap.size + 1 := by rw [ha]; simp
  have cb : wa.cell? ⟨w.heap.size, 0, none⟩ = some v0 := by rw [ha]; simp
  have HA := Lib.hid ha
  have HBA := Lib.hid hba
  have HCB := Lib.hid cb
  obtain ⟨a0, k0, hv0, _⟩ := hp
  generalize hpll : p.length = pl at hv0
  clear hn h2 ha hba cb hq ht hpll hpl
  subst hv0
  go_enter Tryd.func118, Tryd.ntmps118
  go_upto_region 1 with fail
  rw [← HA.out]
  have HSZ := Lib.hid hsz
  go_wp2_with fail
  go_loopw [10, 14] (fun s10 s14 wr => ∃ (k : Nat) (bs : List UInt8), k ≤ n ∧ s14 = .int .i64 k ∧ bs.length = k ∧ Hid (∀ t, t < k → (bs.getD t 0 ≠ 32 ↔ (l.getD t default).g = g)) ∧ Hid (Lib.IsBuilder 106 5 (w.heap.size + 1) (w.heap.size + 1) (Lib.byteCells bs) wr) ∧ Hid (Below (w.heap.size + 1) wa wr)) (fun _ s14 _ => n - (intOf s14).toNat)
  case atStart => exact ⟨0, [], Nat.zero_le _, rfl, rfl, Lib.hid (fun t ht => by omega), Lib.hid (HSZ.out ▸ Lib.fresh_isBuilder 106 5 wa), Lib.hid ((Below.refl _ _).alloc (Nat.le_of_eq HSZ.out.symm) _)⟩
  case round =>
    obtain ⟨k, bs, hk, rfl, hbl, hpr, hB, hb⟩ := hrel
    have hz1 := hb.out.size
    have hz0 : w.heap.size + 1 ≤ wr.heap.size := by have := HSZ.out; omega
    by_cases hlt : k < n
    · have hkl : k < l.length := by have := HN.out; omega
      obtain ⟨b1, o1, rfl, q1⟩ := H2.out (by omega)
      have hbw : Below w.heap.size w wr := HBA.out.trans (hb.out.mono (by omega))
      have d1 := (q1 k hkl).below hbw (Nat.le_refl _)
      clear q1
      obtain ⟨x, hx0⟩ : ∃ x, x = l.getD k default := ⟨_, rfl⟩
      rw [← hx0] at d1
      have HX := Lib.hid hx0
      clear hx0
      obtain ⟨x1, x2, x3, x4, x5⟩ := x
      obtain ⟨p0, p1, p2, p3, p4⟩ := d1
      have kk0 : (0 : Int) ≤ (k : Int) := by omega
      have kk1 : (k : Int) < (n : Int) := by omega
      obtain ⟨wc, hc⟩ : ∃ wc, wc = (wr.alloc (Obj.cells #[Value.int .i64 x1, .int .i64 x2, .int .i64 x3, .int .i64 x4, .int .i64 x5] 38)) := ⟨_, rfl⟩
      have hbc : Below (w.heap.size + 1) wa wc := by rw [hc]; exact hb.out.alloc hz0 _
      have hcb : wc.cell? ⟨w.heap.size, 0, none⟩ = some (.slice a0 pl k0) := below_cell hbc (Nat.le_of_eq HSZ.out) HCB.out
      have hBc : Hid (Lib.IsBuilder 106 5 (w.heap.size + 1) (w.heap.size + 1) (Lib.byteCells bs) wc) := Lib.hid (by rw [hc]; exact isB_alloc hB.out _)
      have e0 : wc.cell? ⟨wr.heap.size, 0, none⟩ = some (.int .i64 x1) := by rw [hc]; simp
      have e1 : wc.cell? ⟨wr.heap.size, 1, none⟩ = some (.int .i64 x2) := by rw [hc]; simp
      have e2 : wc.cell? ⟨wr.heap.size, 2, none⟩ = some (.int .i64 x3) := by rw [hc]; simp
      have e3 : wc.cell? ⟨wr.heap.size, 3, none⟩ = some (.int .i64 x4) := by rw [hc]; simp
      have e4 : wc.cell? ⟨wr.heap.size, 4, none⟩ = some (.int .i64 x5) := by rw [hc]; simp
      have HC := Lib.hid hc
      have HBC := Lib.hid hbc
      have HBW := Lib.hid (HBA.out.trans (hbc.mono (Nat.le_succ _)))
      have hzc : w.heap.size + 1 ≤ wc.heap.size := by have := hbc.size; have := HSZ.out; omega
      clear hc hbc hbw
      by_cases hxg : x2 = g
      · have hxg' : (x2 == g) = true := by simpa using hxg
        have HXG := Lib.hid hxg
        clear hxg
        go_upto_region 6 with fail
        rw [← HC.out]
        go_wp2_with fail
        refine (HSG.out wc ⟨x1, x2, x3, x4, x5⟩ HBW.out).mono ?_
        rintro e w2 ⟨cc, rfl, hc32, hc128, hb2⟩
        have hB2 := Lib.hid (isB_below hBc.out hb2)
        have hbx := Lib.hid (HBC.out.trans (hb2.mono hzc))
        have hz2 := hb2.size
        clear hb2
        rename_i K1 K2 hK2
        refine hK2 _ _ ?_
        clear hK2
        go_wp2_with fail
        refine (rowc_any (w.heap.size + 1) (w.heap.size + 1) bs cc hc128 w2 hB2.out (by omega) (by omega)).mono ?_
        rintro e w3 ⟨rfl, hB3, hb3⟩
        have HB3 := Lib.hid hB3
        have HBX := Lib.hid (hbx.out.trans hb3)
        have hcc : Hid ((UInt8.ofNat cc ≠ 32)) := Lib.hid (fun e => hc32 (by have := congrArg UInt8.toNat e; simp at this; omega))
        clear hB3 hb3
        rename_i K3 K4 hK4
        refine hK4 _ _ ?_
        clear hK4
        go_wp2_with fail
        go_roundw
        case rel =>
          refine ⟨k + 1, bs ++ [UInt8.ofNat cc], by omega, by go_num, by simp; omega, Lib.hid (fun t ht => ?_), HB3, HBX⟩
          by_cases e : t = k
          · subst e
            rw [← HX.out]
            have : (bs ++ [UInt8.ofNat cc]).getD t 0 = UInt8.ofNat cc := by simp [List.getD, ← hbl]
            rw [this]
            exact ⟨fun _ => HXG.out, fun _ => hcc.out⟩
          · have := hpr.out t (by omega)
            have e2 : (bs ++ [UInt8.ofNat cc]).getD t 0 = bs.getD t 0 := by simp only [List.getD]; rw [List.getElem?_append_left (by omega)]
            rw [e2]; exact this
        case measure => simp [intOf]; omega
      · have hxg' : (x2 == g) = false := by simpa using hxg
        have HXG := Lib.hid hxg
        clear hxg
        go_upto_region 6 with fail
        rw [← HC.out]
        go_wp2_with fail
        refine (rowc_any (w.heap.size + 1) (w.heap.size + 1) bs 32 (by decide) wc hBc.out (by omega) (by omega)).mono ?_
        rintro e w3 ⟨rfl, hB3, hb3⟩
        have HB3 := Lib.hid hB3
        have HBX := Lib.hid (HBC.out.trans hb3)
        clear hB3 hb3
        rename_i K3 K4 hK4
        refine hK4 _ _ ?_
        clear hK4
        go_wp2_with fail
        go_roundw
        case rel =>
          refine ⟨k + 1, bs ++ [UInt8.ofNat 32], by omega, by go_num, by simp; omega, Lib.hid (fun t ht => ?_), HB3, HBX⟩
          by_cases e : t = k
          · subst e
            rw [← HX.out]
            have : (bs ++ [UInt8.ofNat 32]).getD t 0 = 32 := by simp [List.getD, ← hbl]
            rw [this]
            exact ⟨fun h => absurd rfl h, fun h => absurd h HXG.out⟩
          · have := hpr.out t (by omega)
            have e2 : (bs ++ [UInt8.ofNat 32]).getD t 0 = bs.getD t 0 := by simp only [List.getD]; rw [List.getElem?_append_left (by omega)]
            rw [e2]; exact this
        case measure => simp [intOf]; omega
    · have e : k = n := by omega
      have HE := Lib.hid e
      clear e
      go_wp2_with fail
      refine (Tryd.Builder_String_any _ _ _ wr hB.out hz0).mono ?_
      rintro e w2 ⟨rfl, hb2⟩
      rename_i K1 K2 hK2
      refine hK2 _ _ ?_
      clear hK2
      go_wp2_with fail
      go_ret
      exact ⟨bs, rfl, by have := HE.out; omega, fun t ht => hpr.out t (by have := HE.out; omega), (HBA.out.trans (hb.out.mono (Nat.le_succ _))).trans (hb2.mono (Nat.le_succ _))⟩
end Go.Proofs.YtfcoigcenheefaaDoor
