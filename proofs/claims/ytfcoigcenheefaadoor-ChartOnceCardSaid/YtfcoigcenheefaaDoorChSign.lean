import Derived.Test.YtfcoigcenheefaaDoorChTab
set_option linter.unusedVariables false
set_option linter.unusedSimpArgs false
namespace Go.Proofs.YtfcoigcenheefaaDoor
open Go.RowKit
theorem empty_tl : (⟨#[]⟩ : ByteArray).toList.isEmpty = true := by
  unfold ByteArray.toList ByteArray.toList.loop
  rfl
set_option maxRecDepth 100000 in
set_option maxHeartbeats 2000000 in
theorem sign_any (w : World) (v0 : Value) (p : List Fn) (x : Ev) (rows : List RowD) (h : ProgAt w v0 p) (hp : p.length ≤ 1000) (hq : ∀ i, i < p.length → (p.getD i default).1.length ≤ 1000) (ht : RowTab w rows) :
    Calls Tryd.prog 63 #[.agg #[v0], evV x] w fun e w' => ∃ c : Nat, e = .returned (.int .u8 c) ∧ c ≠ 32 ∧ c < 128 ∧ Below w.heap.size w w' := by
  obtain ⟨kind, g, fn, pc, n⟩ := x
  obtain ⟨wa, ha⟩ : ∃ wa, wa = (w.alloc (Obj.cells #[v0] 44)).alloc (Obj.cells #[.int .i64 kind, .int .i64 g, .int .i64 fn, .int .i64 pc, .int .i64 n] 38) := ⟨_, rfl⟩
  have hba : Below w.heap.size w wa := by rw [ha]; exact ((Below.refl _ _).alloc (Nat.le_refl _) _).alloc (by simp) _
  have cb : wa.cell? ⟨w.heap.size, 0, none⟩ = some v0 := by rw [ha]; exact Lib.cell?_alloc_some _ (by simp)
  have c0 : wa.cell? ⟨w.heap.size + 1, 0, none⟩ = some (.int .i64 kind) := by rw [ha]; simp
  have c1 : wa.cell? ⟨w.heap.size + 1, 1, none⟩ = some (.int .i64 g) := by rw [ha]; simp
  have c2 : wa.cell? ⟨w.heap.size + 1, 2, none⟩ = some (.int .i64 fn) := by rw [ha]; simp
  have c3 : wa.cell? ⟨w.heap.size + 1, 3, none⟩ = some (.int .i64 pc) := by rw [ha]; simp
  have c4 : wa.cell? ⟨w.heap.size + 1, 4, none⟩ = some (.int .i64 n) := by rw [ha]; simp
  have HO := Lib.hid (op_any wa v0 p ⟨kind, g, fn, pc, n⟩ (h.below hba (Nat.le_refl _)) hp hq)
  obtain ⟨o, ho⟩ : ∃ o, opAt p fn pc = o := ⟨_, rfl⟩
  simp only [ho] at HO
  have HT := Lib.hid ht
  have HA := Lib.hid ha
  have HBA := Lib.hid hba
  obtain ⟨a0, k0, hv0, _⟩ := h
  generalize hpl : p.length = pl at hv0
  clear ho ht ha hba hp hq hpl
  subst hv0
  simp only [evV]
  go_enter Tryd.func63, Tryd.ntmps63
  go_upto_region 1 with fail
  rw [← HA.out]
  go_wp2_with fail
  refine HO.out.mono ?_
  rintro e w1 ⟨rfl, hb1⟩
  have d0 := below_cell hb1 (Nat.le_refl _) c0
  have HB1 := Lib.hid (HBA.out.trans (hb1.mono HBA.out.size))
  clear hb1 c0 c1 c2 c3 c4 cb HO
  rename_i K1 K2 hK2
  refine hK2 _ _ ?_
  clear hK2
  by_cases hk1 : kind = 1
  · subst hk1
    go_wp2_with fail
    go_ret
    exact ⟨40, rfl, by decide, by decide, HB1.out⟩
  · have hk1' : (kind == 1) = false := by simpa using hk1
    by_cases hk2 : kind = 2
    · subst hk2
      by_cases ho0 : o < 0
      · go_wp2_with fail
        go_ret
        exact ⟨45, rfl, by decide, by decide, HB1.out⟩
      · obtain ⟨k, rfl⟩ : ∃ k : Nat, o = k := ⟨o.toNat, by omega⟩
        have hk0 : (0 : Int) ≤ (k : Int) := by omega
        clear ho0 hk1 hk1'
        go_wp2_with fail
        refine (isaname_any w1 k rows (HT.out.below HB1.out (Nat.le_refl _))).mono ?_
        rintro e w2 ⟨rfl, hb2⟩
        have HB2 := Lib.hid (HB1.out.trans (hb2.mono HB1.out.size))
        clear hb2
        rename_i K3 K4 hK4
        refine hK4 _ _ ?_
        clear hK4
        obtain ⟨nm, hnm⟩ : ∃ nm, nm = (rowOf rows k).name := ⟨_, rfl⟩
        rw [← hnm]
        have HNM := Lib.hid hnm
        clear hnm
        cases hn : nm.toList.isEmpty with
        | true =>
          go_wp2_with fail
          go_ret
          exact ⟨46, rfl, by decide, by decide, HB2.out⟩
        | false =>
          have hk24 : k < 24 := by
            rcases Nat.lt_or_ge k 24 with h | h
            · exact h
            · have e0 : nm = ⟨#[]⟩ := by rw [HNM.out, rowOf, if_pos (.inr (by omega))]; rfl
              rw [e0] at hn
              exact absurd hn (by rw [empty_tl]; simp)
          obtain ⟨c, hc1, hc2, hc3⟩ := signs_at k hk24
          have hix := fun w => index167 k signsA _ hk24 hc1 w
          generalize hS : signsA = S at hix
          have HS := Lib.hid hS
          clear hS hc1
          go_wp2_with fail
          refine (signs_any w2).mono ?_
          rintro e w3 ⟨rfl, hb3⟩
          have HB3 := Lib.hid (HB2.out.trans (hb3.mono HB2.out.size))
          clear hb3
          rename_i K5 K6 hK6
          refine hK6 _ _ ?_
          clear hK6
          rw [HS.out]
          by_cases hc0 : c = 0
          · subst hc0
            go_wp2_with fail
            go_ret
            exact ⟨46, rfl, by decide, by decide, HB3.out⟩
          · have hc0' : ((c : Int) != 0) = true := by simp; omega
            go_wp2_with fail
            go_ret
            exact ⟨c, rfl, hc2, hc3, HB3.out⟩
    · have hk2' : (kind != 2) = true := by simpa using hk2
      go_wp2_with fail
      go_ret
      exact ⟨45, rfl, by decide, by decide, HB1.out⟩
theorem u8b (c : Nat) (h : c < 128) : ((UInt8.ofNat c).toNat : Int) = c := by simp; omega
theorem bk_grown {w1 w2 : World} {b : Nat} {v : Value} {o : Obj} (hbk : w1.heap[b]? = some (.cells #[.pointer (some ⟨b, 0, none⟩), v] 106 (0, 0))) (hgrow : (w1.alloc o).grownBy w2 v.ownBlock) (hne : v.ownBlock ≠ some b) : w2.heap[b]? = some (.cells #[.pointer (some ⟨b, 0, none⟩), v] 106 (0, 0)) := by
  have hlt := lt_of_block hbk
  rw [hgrow.block b (by simp; omega) (fun e => hne e.symm), heap_alloc_old _ _ hlt]
  exact hbk
theorem Tryd.info5b : (Tryd.prog.info? 5).map (fun i => (i.zero, i.size, i.bytes)) = some (some (.int .u8 0), 1, 1) := by kernel_rfl
set_option maxHeartbeats 2000000 in
set_option maxRecDepth 100000 in
theorem writeByte_any (B b : Nat) (bs : List Value) (c : Int) (w : World) (h : Lib.IsBuilder 106 5 B b bs w) (hlen : bs.length ≤ 1000) (hBw : B ≤ w.heap.size) :
    Calls Tryd.prog 178 #[.pointer (some ⟨b, 0, none⟩), .int .u8 c] w fun e w' => e = .returned .nilIface ∧ (Lib.BuilderAt 106 5 B b (.pointer (some ⟨b, 0, none⟩)) (bs ++ [.int .u8 c]) w' ∧ Below B w w') := by
  obtain ⟨i0, hi, hz0, hz1, hz2⟩ := info_parts Tryd.info5b
  have e240 : ∀ args w, (callFunc 135 args).run Tryd.prog w = .ok (.enter 135 args) w := enters_of Tryd.func135 (by kernel_rfl) rfl
  go_enter Tryd.func178, Tryd.ntmps178
  go_wp2_with (go_at_fn 135; refine (copyCheck_any B b bs _ h).mono ?_)
  rintro e w1 ⟨rfl, h1, hb1⟩
  obtain ⟨hB, v, hbk, hown, hne⟩ := h1
  have c0 : w1.cell? ⟨b, 0, none⟩ = some (.pointer (some ⟨b, 0, none⟩)) := by rw [Lib.cell_of_heap hbk]; rfl
  have c1 : w1.cell? ⟨b, 1, none⟩ = some v := by rw [Lib.cell_of_heap hbk]; rfl
  have hz1' := hb1.size
  go_wp2_with (at_builtin; refine wpList_app w1 5 [.int .u8 c] rfl _ _ 94 rfl B (.int .u8 0) 1 1 Tryd.underlying94 Tryd.info5b rfl (by decide) _ _ _ rfl hown _ rfl (by simp) rfl rfl (by omega) (by omega) (by omega) B w1 (Below.refl _ _) (Nat.le_refl _) ?_; intro gg cap w2 hown' hb2 hgrow _; have hbk2 := bk_grown hbk hgrow hne; have d0 : w2.cell? ⟨b, 0, none⟩ = some (.pointer (some ⟨b, 0, none⟩)) := (Lib.cell_of_heap hbk2 _).trans rfl; have d1 : w2.cell? ⟨b, 1, none⟩ = some v := (Lib.cell_of_heap hbk2 _).trans rfl; have f1 : w2.frozen? ⟨b, 1, none⟩ = false := Lib.frozen_of_heap hbk2 1)
  go_ret
  refine ⟨rfl, ?_, ?_⟩
  · exact Lib.BuilderAt.put (T := 106) (e := 5) hB hbk2 (bs' := bs ++ [.int .u8 c]) (by simpa using hown') (by decide)
  · exact (hb1.trans hb2).setCell (p := ⟨b, 1, none⟩) hB _
end Go.Proofs.YtfcoigcenheefaaDoor
