import Derived.Test.YtfcoigcenheefaaDoorEvPLine
import Derived.Test.YtfcoigcenheefaaDoorEvRLine
import Derived.Test.YtfcoigcenheefaaDoorPrint
set_option linter.unusedVariables false
set_option linter.unusedSimpArgs false
namespace Go.Proofs.YtfcoigcenheefaaDoor
open Go.RowKit
theorem evlist_below {w w' : World} {B : Nat} {v : Value} {l : List Ev} (h : EvsAt w v l) (hb : Below B w w') (hB : w.heap.size ≤ B) : EvsAt w' v l := EvsAt.below h hb hB
set_option maxRecDepth 100000 in
set_option maxHeartbeats 1000000 in
theorem rprint_any (w : World) (v : Value) (l : List Ev) (h : EvsAt w v l) (hl : l.length ≤ 100) (hn : ∀ k, k < l.length → NumOk (l.getD k default)) :
    Calls Tryd.prog 26 #[v] w fun x w' => x = .returned (.tuple #[.string ⟨(printT l).toArray⟩, .int .i64 (faultT (l.all rightB))]) ∧ Below w.heap.size w w' := by
  obtain ⟨a, c, rfl, h2⟩ := h
  obtain ⟨n, hlen⟩ : ∃ n, n = l.length := ⟨_, rfl⟩
  rw [← hlen] at hl ⊢
  have HLEN := Lib.hid hlen
  have H2 := Lib.hid h2
  have HN := Lib.hid hn
  clear hlen h2 hn
  go_enter Tryd.func26, Tryd.ntmps26
  go_wp2_with fail
  go_loopw [4, 5] (fun s4 s5 wr => ∃ k : Nat, k ≤ n ∧ s5 = .int .i64 k ∧ s4 = .string ⟨(textE (l.take k)).toArray⟩ ∧ Hid ((l.take k).all rightB = true) ∧ Hid (Below w.heap.size w wr)) (fun _ s5 _ => n - (intOf s5).toNat)
  case atStart => exact ⟨0, Nat.zero_le _, rfl, by simp [textE], Lib.hid (by simp), Lib.hid (Below.refl _ _)⟩
  case round =>
    obtain ⟨k, hk, rfl, rfl, hall, hb⟩ := hrel
    by_cases hlt : k < n
    · have hkl : k < l.length := by have := HLEN.out; omega
      obtain ⟨b1, o1, rfl, q1⟩ := H2.out (by omega)
      have d1 := q1 k hkl
      have hnk := HN.out k hkl
      clear q1
      have HS := Lib.hid (textE_succ hkl)
      have HA := Lib.hid (all_succ hkl)
      have HF := Lib.hid (fun h => all_false hkl h)
      have hLen : (textE (l.take k)).length ≤ 100000 := by
        have := textE_len hall.out (fun e he => by
          obtain ⟨i, hi, rfl⟩ := List.getElem_of_mem he
          have hi' : i < l.length := by simp at hi; omega
          have := HN.out i hi'
          simpa [List.getD, hi'] using this)
        simp at this
        omega
      obtain ⟨x, hx0⟩ : ∃ x, x = l.getD k default := ⟨_, rfl⟩
      rw [← hx0] at d1 hnk HS HA HF
      clear hx0
      have hC := fun w => rline_any w x hnk
      have HC := Lib.hid hC
      have hTl : rightB x = true → (lineT x).length ≤ 200 := fun h => by rw [lineT, h]; exact lineE_len h hnk
      have HTL := Lib.hid hTl
      have hTe : rightB x = true → lineT x = lineE x := fun h => by rw [lineT, h]; rfl
      have HTE := Lib.hid hTe
      clear hC hTl hnk hTe
      obtain ⟨x1, x2, x3, x4, x5⟩ := x
      obtain ⟨p0, p1, p2, p3, p4⟩ := d1
      have p0 := below_cell hb.out (Nat.le_refl _) p0
      have p1 := below_cell hb.out (Nat.le_refl _) p1
      have p2 := below_cell hb.out (Nat.le_refl _) p2
      have p3 := below_cell hb.out (Nat.le_refl _) p3
      have p4 := below_cell hb.out (Nat.le_refl _) p4
      have k0 : (0 : Int) ≤ (k : Int) := by omega
      have k1 : (k : Int) < (n : Int) := by omega
      go_wp2_with fail
      refine (HC.out wr).mono ?_
      rintro e w2 ⟨rfl, hb2⟩
      have hb3 := Lib.hid (hb.out.trans (hb2.mono hb.out.size))
      clear hb2
      rename_i K1 K2 hK2
      refine hK2 _ _ ?_
      clear hK2
      cases hr : rightB ⟨x1, x2, x3, x4, x5⟩ with
      | false =>
        simp only [faultT]
        have HR := Lib.hid (HF.out hr)
        clear hr
        go_wp2_with fail
        go_ret2
        refine ⟨?_, hb3.out⟩
        rw [printT, HR.out]; rfl
      | true =>
        simp only [faultT]
        have hl1 := HTL.out hr
        have hle := HTE.out hr
        rw [hle] at hl1 ⊢
        rw [hr] at HA
        generalize hTX : textE (l.take k) = TX at *
        generalize hLX : lineE ⟨x1, x2, x3, x4, x5⟩ = LX at *
        clear hr HTL HTE HF hle
        have hl2 : ¬ (9223372036854775807 < TX.length + LX.length) := by omega
        have hl3 : ¬ (9223372036854775807 < TX.length + LX.length + 1) := by omega
        go_wp2_with fail
        go_roundw
        case rel =>
          refine ⟨k + 1, by omega, by go_num, ?_, ?_, hb3⟩
          · rw [HS.out]
            show Value.string _ = Value.string _
            congr 1
            apply ByteArray.ext
            simp
          · exact Lib.hid (by rw [HA.out, hall.out]; rfl)
        case measure => simp [intOf]; omega
    · have e : k = n := by omega
      have HE := Lib.hid e
      clear e
      go_wp2_with fail
      go_ret2
      refine ⟨?_, hb.out⟩
      have e1 : l.take k = l := by rw [HE.out, HLEN.out]; simp
      have e2 := hall.out
      rw [e1] at e2 ⊢
      rw [printT, e2]; rfl
theorem bat_below {B b : Nat} {p : Value} {bs : List Value} {w w' : World} (h : Lib.BuilderAt 106 5 B b p bs w) (hb : Below w.heap.size w w') : Lib.BuilderAt 106 5 B b p bs w' := by
  have hl := h.lt
  obtain ⟨hB, v, hbk, hown, hne⟩ := h
  exact ⟨hB, v, (hb.block b hl).trans hbk, row_below hown hb (Nat.le_refl _), hne⟩
theorem isB_below {B b : Nat} {bs : List Value} {w w' : World} (h : Lib.IsBuilder 106 5 B b bs w) (hb : Below w.heap.size w w') : Lib.IsBuilder 106 5 B b bs w' := h.imp (fun h => bat_below h hb) (fun h => bat_below h hb)
set_option maxRecDepth 100000 in
set_option maxHeartbeats 1000000 in
theorem print_any (w : World) (v : Value) (l : List Ev) (htab : TabP w) (h : EvsAt w v l) (hl : l.length ≤ 100) (hn : ∀ k, k < l.length → NumOk (l.getD k default)) :
    Calls Tryd.prog 25 #[v] w fun x w' => x = .returned (.tuple #[.string ⟨(printT l).toArray⟩, .int .i64 (faultT (l.all rightB))]) ∧ Below w.heap.size w w' := by
  obtain ⟨a, c, rfl, h2⟩ := h
  obtain ⟨n, hlen⟩ : ∃ n, n = l.length := ⟨_, rfl⟩
  rw [← hlen] at hl ⊢
  have HLEN := Lib.hid hlen
  have H2 := Lib.hid h2
  have HT := Lib.hid htab
  have HN := Lib.hid hn
  clear hlen h2 hn htab
  go_enter Tryd.func25, Tryd.ntmps25
  go_wp2_with fail
  go_loopw [6, 11] (fun s6 s11 wr => ∃ k : Nat, k ≤ n ∧ s11 = .int .i64 k ∧ Hid (Lib.IsBuilder 106 5 w.heap.size w.heap.size (Lib.byteCells (textE (l.take k))) wr) ∧ Hid ((l.take k).all rightB = true) ∧ Hid (Below w.heap.size w wr)) (fun _ s11 _ => n - (intOf s11).toNat)
  case atStart => exact ⟨0, Nat.zero_le _, rfl, Lib.hid (Lib.fresh_isBuilder 106 5 w), Lib.hid (by simp), Lib.hid ((Below.refl _ _).alloc (Nat.le_refl _) _)⟩
  case round =>
    obtain ⟨k, hk, rfl, hB, hall, hb⟩ := hrel
    have hz1 := hb.out.size
    by_cases hlt : k < n
    · have hkl : k < l.length := by have := HLEN.out; omega
      obtain ⟨b1, o1, rfl, q1⟩ := H2.out (by omega)
      have d1 := q1 k hkl
      have hnk := HN.out k hkl
      clear q1
      have HS := Lib.hid (textE_succ hkl)
      have HA := Lib.hid (all_succ hkl)
      have HF := Lib.hid (fun h => all_false hkl h)
      have hLen : (textE (l.take k)).length ≤ 100000 := by
        have := textE_len hall.out (fun e he => by
          obtain ⟨i, hi, rfl⟩ := List.getElem_of_mem he
          have hi' : i < l.length := by simp at hi; omega
          have := HN.out i hi'
          simpa [List.getD, hi'] using this)
        simp at this
        omega
      obtain ⟨x, hx0⟩ : ∃ x, x = l.getD k default := ⟨_, rfl⟩
      rw [← hx0] at d1 hnk HS HA HF
      clear hx0
      have hC := fun w ht => line_any w x hnk ht
      have HC := Lib.hid hC
      have hTl : rightB x = true → (lineT x).length ≤ 200 := fun h => by rw [lineT, h]; exact lineE_len h hnk
      have HTL := Lib.hid hTl
      have hTe : rightB x = true → lineT x = lineE x := fun h => by rw [lineT, h]; rfl
      have HTE := Lib.hid hTe
      clear hC hTl hnk hTe
      obtain ⟨x1, x2, x3, x4, x5⟩ := x
      obtain ⟨p0, p1, p2, p3, p4⟩ := d1
      have p0 := below_cell hb.out (Nat.le_refl _) p0
      have p1 := below_cell hb.out (Nat.le_refl _) p1
      have p2 := below_cell hb.out (Nat.le_refl _) p2
      have p3 := below_cell hb.out (Nat.le_refl _) p3
      have p4 := below_cell hb.out (Nat.le_refl _) p4
      have k0 : (0 : Int) ≤ (k : Int) := by omega
      have k1 : (k : Int) < (n : Int) := by omega
      obtain ⟨wa, ha⟩ : ∃ wa, wa = (wr.alloc (Obj.cells #[Value.int IntKind.i64 x1, Value.int IntKind.i64 x2, Value.int IntKind.i64 x3, Value.int IntKind.i64 x4, Value.int IntKind.i64 x5] 38)) := ⟨_, rfl⟩
      have hBa := Lib.hid (ha ▸ isB_alloc hB.out (Obj.cells #[Value.int IntKind.i64 x1, Value.int IntKind.i64 x2, Value.int IntKind.i64 x3, Value.int IntKind.i64 x4, Value.int IntKind.i64 x5] 38))
      have hba : Hid (Below w.heap.size w wa) := Lib.hid (by rw [ha]; exact hb.out.alloc hz1 _)
      have HA2 := Lib.hid ha
      clear ha
      go_wp2_with fail
      rw [← HA2.out]
      refine (HC.out wa (tab_below HT.out hba.out (Nat.le_refl _))).mono ?_
      rintro e w2 ⟨rfl, hb2⟩
      have hb3 := Lib.hid (hba.out.trans (hb2.mono hba.out.size))
      have hB2 := Lib.hid (isB_below hBa.out hb2)
      clear hb2
      rename_i K1 K2 hK2
      refine hK2 _ _ ?_
      clear hK2
      cases hr : rightB ⟨x1, x2, x3, x4, x5⟩ with
      | false =>
        simp only [faultT]
        have HR := Lib.hid (HF.out hr)
        clear hr
        go_wp2_with fail
        go_ret2
        refine ⟨?_, hb3.out⟩
        rw [printT, HR.out]; rfl
      | true =>
        simp only [faultT]
        have hl1 := HTL.out hr
        have hle := HTE.out hr
        rw [hle] at hl1 ⊢
        rw [hr] at HA
        generalize hTX : textE (l.take k) = TX at *
        generalize hLX : lineE ⟨x1, x2, x3, x4, x5⟩ = LX at *
        clear hr HTL HTE HF hle
        have hl2 : ¬ (9223372036854775807 < LX.length + 1) := by omega
        go_wp2_with fail
        refine (writeString_any _ _ _ _ w2 hB2.out (by rw [Lib.byteCells_length]; simp [ByteArray.size]; omega) hb3.out.size).mono ?_
        rintro e w3 ⟨rfl, hB3, hb4⟩
        have HB3 := Lib.hid hB3
        have hb5 := Lib.hid (hb3.out.trans hb4)
        clear hB3 hb4
        rename_i K5 K6 hK6
        refine hK6 _ _ ?_
        clear hK6
        go_wp2_with fail
        go_roundw
        case rel =>
          refine ⟨k + 1, by omega, by go_num, ?_, ?_, hb5⟩
          · refine Lib.hid (Or.inr ?_)
            have hcells : Lib.byteCells TX ++ Lib.strCells ((⟨LX.toArray⟩ : ByteArray) ++ ⟨#[10]⟩) = Lib.byteCells (textE (l.take (k + 1))) := by
              rw [HS.out, Lib.strCells_eq]; simp [Lib.byteCells]
            rw [← hcells]; exact HB3.out
          · exact Lib.hid (by rw [HA.out, hall.out]; rfl)
        case measure => simp [intOf]; omega
    · have e : k = n := by omega
      have HE := Lib.hid e
      clear e
      have hLen : (textE (l.take k)).length ≤ 100000 := by
        have := textE_len hall.out (fun e he => by
          obtain ⟨i, hi, rfl⟩ := List.getElem_of_mem he
          have hi' : i < l.length := by simp at hi; omega
          have := HN.out i hi'
          simpa [List.getD, hi'] using this)
        simp at this
        omega
      go_wp2_with fail
      refine (Tryd.Builder_String_any _ _ _ wr hB.out hz1).mono ?_
      rintro e w2 ⟨rfl, hb2⟩
      rename_i K1 K2 hK2
      refine hK2 _ _ ?_
      clear hK2
      go_wp2_with fail
      go_ret2
      refine ⟨?_, hb.out.trans hb2⟩
      have e1 : l.take k = l := by rw [HE.out, HLEN.out]; simp
      have e2 := hall.out
      rw [e1] at e2 ⊢
      rw [printT, e2]; rfl
theorem evalive_any (w : World) (htab : TabP w) : Calls Tryd.prog 20 #[] w fun e w' => e = .returned (.bool true) ∧ Below w.heap.size w w' := by
  have HC := Lib.hid (line_any w ⟨1, 3, 0, 5, 0⟩ ⟨by simp, by simp⟩ htab)
  have h1 : rightB ⟨1, 3, 0, 5, 0⟩ = true := by decide
  have h2 : lineT ⟨1, 3, 0, 5, 0⟩ = [98, 101, 103, 105, 110, 32, 51, 32, 48, 32, 53] := by kernel_rfl
  rw [h1, h2] at HC
  clear h1 h2
  go_enter Tryd.func20, Tryd.ntmps20
  go_wp2_with fail
  refine HC.out.mono ?_
  rintro e w1 ⟨rfl, hb⟩
  simp only [faultT]
  rename_i K1 K2 hK2
  refine hK2 _ _ ?_
  clear hK2
  go_wp2_with fail
  go_ret
  exact ⟨rfl, hb⟩
end Go.Proofs.YtfcoigcenheefaaDoor
