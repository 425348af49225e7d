import Derived.Test.YtfcoigcenheefaaDoorPkOp
import Derived.Test.YtfcoigcenheefaaDoorInv
import Derived.Test.YtfcoigcenheefaaDoorBuild
set_option linter.unusedVariables false
set_option linter.unusedSimpArgs false
namespace Go.Proofs.YtfcoigcenheefaaDoor
open Go.RowKit
/-- A row of the table of instructions. -/
structure RowD where
  name : ByteArray
  regs : Int
  target : Int
  number : Bool
  waits : Bool
  ends : Bool
  asks : Bool
deriving Inhabited
def RowD.value (r : RowD) : Value := .agg #[.string r.name, .int .i64 r.regs, .int .i64 r.target, .bool r.number, .bool r.waits, .bool r.ends, .bool r.asks]
structure RowAt (w : World) (o : Nat) (r : RowD) : Prop where
  c0 : w.cell? ⟨0, o * 7, none⟩ = some (.string r.name)
  c1 : w.cell? ⟨0, o * 7 + 1, none⟩ = some (.int .i64 r.regs)
  c2 : w.cell? ⟨0, o * 7 + 2, none⟩ = some (.int .i64 r.target)
  c3 : w.cell? ⟨0, o * 7 + 3, none⟩ = some (.bool r.number)
  c4 : w.cell? ⟨0, o * 7 + 4, none⟩ = some (.bool r.waits)
  c5 : w.cell? ⟨0, o * 7 + 5, none⟩ = some (.bool r.ends)
  c6 : w.cell? ⟨0, o * 7 + 6, none⟩ = some (.bool r.asks)
def RowTab (w : World) (rows : List RowD) : Prop := rows.length = 24 ∧ ∀ o, o < 24 → RowAt w o (rows.getD o default)
theorem RowAt.below {w w' : World} {B o : Nat} {r : RowD} (h : RowAt w o r) (hb : Below B w w') (hB : w.heap.size ≤ B) : RowAt w' o r :=
  ⟨below_cell hb hB h.c0, below_cell hb hB h.c1, below_cell hb hB h.c2, below_cell hb hB h.c3, below_cell hb hB h.c4, below_cell hb hB h.c5, below_cell hb hB h.c6⟩
theorem RowTab.below {w w' : World} {B : Nat} {rows : List RowD} (h : RowTab w rows) (hb : Below B w w') (hB : w.heap.size ≤ B) : RowTab w' rows := ⟨h.1, fun o ho => (h.2 o ho).below hb hB⟩
def row0 : RowD := ⟨⟨#[]⟩, 0, 0, false, false, false, false⟩
def rowOf (rows : List RowD) (o : Int) : RowD := if o < 0 ∨ 24 ≤ o then row0 else rows.getD o.toNat default
theorem set7 {w : World} {g : Nat} {a0 a1 a2 a3 a4 a5 a6 b0 b1 b2 b3 b4 b5 b6 : Value} {t : TypeId} (h : w.heap[g]? = some (.cells #[a0, a1, a2, a3, a4, a5, a6] t (0, 0))) :
    (((((((w.setCell ⟨g, 0, none⟩ b0).setCell ⟨g, 1, none⟩ b1).setCell ⟨g, 2, none⟩ b2).setCell ⟨g, 3, none⟩ b3).setCell ⟨g, 4, none⟩ b4).setCell ⟨g, 5, none⟩ b5).setCell ⟨g, 6, none⟩ b6).heap[g]? = some (.cells #[b0, b1, b2, b3, b4, b5, b6] t (0, 0)) := by
  have h0 := heap_setCell_same w g 0 _ t b0 h
  have h1 := heap_setCell_same _ g 1 _ t b1 h0
  have h2 := heap_setCell_same _ g 2 _ t b2 h1
  have h3 := heap_setCell_same _ g 3 _ t b3 h2
  have h4 := heap_setCell_same _ g 4 _ t b4 h3
  have h5 := heap_setCell_same _ g 5 _ t b5 h4
  have h6 := heap_setCell_same _ g 6 _ t b6 h5
  rw [h6]; simp
theorem below_set7 {w wa : World} {b0 b1 b2 b3 b4 b5 b6 : Value} (h : Below w.heap.size w wa) :
    Below w.heap.size w (((((((wa.setCell ⟨w.heap.size, 0, none⟩ b0).setCell ⟨w.heap.size, 1, none⟩ b1).setCell ⟨w.heap.size, 2, none⟩ b2).setCell ⟨w.heap.size, 3, none⟩ b3).setCell ⟨w.heap.size, 4, none⟩ b4).setCell ⟨w.heap.size, 5, none⟩ b5).setCell ⟨w.heap.size, 6, none⟩ b6) :=
  ((((((h.setCell (p := ⟨w.heap.size, 0, none⟩) (Nat.le_refl _) _).setCell (p := ⟨w.heap.size, 1, none⟩) (Nat.le_refl _) _).setCell (p := ⟨w.heap.size, 2, none⟩) (Nat.le_refl _) _).setCell (p := ⟨w.heap.size, 3, none⟩) (Nat.le_refl _) _).setCell (p := ⟨w.heap.size, 4, none⟩) (Nat.le_refl _) _).setCell (p := ⟨w.heap.size, 5, none⟩) (Nat.le_refl _) _).setCell (p := ⟨w.heap.size, 6, none⟩) (Nat.le_refl _) _
set_option maxRecDepth 100000 in
set_option maxHeartbeats 1000000 in
theorem isaof_any (w : World) (o : Int) (rows : List RowD) (h : RowTab w rows) : Calls Tryd.prog 180 #[.int .i64 o] w fun e w' => e = .returned (rowOf rows o).value ∧ Below w.heap.size w w' := by
  obtain ⟨wa, ha⟩ : ∃ wa, wa = (w.alloc (Obj.cells #[.string ⟨#[]⟩, .int .i64 0, .int .i64 0, .bool false, .bool false, .bool false, .bool false] 223)) := ⟨_, rfl⟩
  have hba : Below w.heap.size w wa := by rw [ha]; exact (Below.refl _ _).alloc (Nat.le_refl _) _
  have hbk : wa.heap[w.heap.size]? = some (.cells #[.string ⟨#[]⟩, .int .i64 0, .int .i64 0, .bool false, .bool false, .bool false, .bool false] 223 (0, 0)) := by rw [ha]; exact heap_alloc_new _ _
  have b0 : wa.cell? ⟨w.heap.size, 0, none⟩ = some (.string ⟨#[]⟩) := (Lib.cell_of_heap hbk _).trans rfl
  have b1 : wa.cell? ⟨w.heap.size, 1, none⟩ = some (.int .i64 0) := (Lib.cell_of_heap hbk _).trans rfl
  have b2 : wa.cell? ⟨w.heap.size, 2, none⟩ = some (.int .i64 0) := (Lib.cell_of_heap hbk _).trans rfl
  have b3 : wa.cell? ⟨w.heap.size, 3, none⟩ = some (.bool false) := (Lib.cell_of_heap hbk _).trans rfl
  have b4 : wa.cell? ⟨w.heap.size, 4, none⟩ = some (.bool false) := (Lib.cell_of_heap hbk _).trans rfl
  have b5 : wa.cell? ⟨w.heap.size, 5, none⟩ = some (.bool false) := (Lib.cell_of_heap hbk _).trans rfl
  have b6 : wa.cell? ⟨w.heap.size, 6, none⟩ = some (.bool false) := (Lib.cell_of_heap hbk _).trans rfl
  have u0 : wa.frozen? ⟨w.heap.size, 0, none⟩ = false := Lib.frozen_of_heap hbk 0
  have u1 : wa.frozen? ⟨w.heap.size, 1, none⟩ = false := Lib.frozen_of_heap hbk 1
  have u2 : wa.frozen? ⟨w.heap.size, 2, none⟩ = false := Lib.frozen_of_heap hbk 2
  have u3 : wa.frozen? ⟨w.heap.size, 3, none⟩ = false := Lib.frozen_of_heap hbk 3
  have u4 : wa.frozen? ⟨w.heap.size, 4, none⟩ = false := Lib.frozen_of_heap hbk 4
  have u5 : wa.frozen? ⟨w.heap.size, 5, none⟩ = false := Lib.frozen_of_heap hbk 5
  have u6 : wa.frozen? ⟨w.heap.size, 6, none⟩ = false := Lib.frozen_of_heap hbk 6
  have HBK := Lib.hid hbk
  have HA := Lib.hid ha
  have HBA := Lib.hid hba
  have hT := h.below hba (Nat.le_refl _)
  clear ha hba hbk h
  have hi : (Tryd.prog.info? 223).map (·.size) = some 7 := by kernel_rfl
  have HI := Lib.hid hi
  clear hi
  by_cases h1 : o < 0
  · have HR : Hid (rowOf rows o = row0) := Lib.hid (if_pos (.inl h1))
    clear hT
    go_enter Tryd.func180, Tryd.ntmps180
    go_upto_region 1 with fail
    rw [← HA.out]
    go_wp2_with fail
    refine bodyPost_ret (results_cell_row Tryd.results180 _ _ w.heap.size 223 _ (0, 0) _ rfl (set7 HBK.out) Tryd.underlying223 rfl HI.out) rfl ?_
    exact ⟨by rw [HR.out]; rfl, below_set7 HBA.out⟩
  · by_cases h2 : 24 ≤ o
    · have HR : Hid (rowOf rows o = row0) := Lib.hid (if_pos (.inr h2))
      clear hT
      go_enter Tryd.func180, Tryd.ntmps180
      go_upto_region 1 with fail
      rw [← HA.out]
      go_wp2_with fail
      refine bodyPost_ret (results_cell_row Tryd.results180 _ _ w.heap.size 223 _ (0, 0) _ rfl (set7 HBK.out) Tryd.underlying223 rfl HI.out) rfl ?_
      exact ⟨by rw [HR.out]; rfl, below_set7 HBA.out⟩
    · obtain ⟨k, rfl⟩ : ∃ k : Nat, o = k := ⟨o.toNat, by omega⟩
      have HR : Hid (rowOf rows k = rows.getD k default) := Lib.hid (by rw [rowOf, if_neg (by omega)]; rfl)
      have hr := hT.2 k (by omega)
      obtain ⟨r, hr0⟩ : ∃ r, r = rows.getD k default := ⟨_, rfl⟩
      rw [← hr0] at hr HR
      obtain ⟨r1, r2, r3, r4, r5, r6, r7⟩ := r
      obtain ⟨c0, c1, c2, c3, c4, c5, c6⟩ := hr
      have k0 : (0 : Int) ≤ (k : Int) := by omega
      have k1 : (k : Int) < 24 := by omega
      clear hT hr0
      go_enter Tryd.func180, Tryd.ntmps180
      go_upto_region 1 with fail
      rw [← HA.out]
      go_wp2_with fail
      refine bodyPost_ret (results_cell_row Tryd.results180 _ _ w.heap.size 223 _ (0, 0) _ rfl (set7 HBK.out) Tryd.underlying223 rfl HI.out) rfl ?_
      exact ⟨by rw [HR.out]; rfl, below_set7 HBA.out⟩
theorem run_name (r1 : ByteArray) (r2 r3 : Int) (r4 r5 r6 r7 : Bool) (w : World) : (Instr.field 223 (.agg #[.string r1, .int .i64 r2, .int .i64 r3, .bool r4, .bool r5, .bool r6, .bool r7]) 0).run Tryd.prog w = .ok (.string r1) w := by kernel_rfl
set_option maxRecDepth 100000 in
theorem isaname_any (w : World) (o : Int) (rows : List RowD) (h : RowTab w rows) : Calls Tryd.prog 124 #[.int .i64 o] w fun e w' => e = .returned (.string (rowOf rows o).name) ∧ Below w.heap.size w w' := by
  have HC := Lib.hid (isaof_any w o rows h)
  obtain ⟨r, hr⟩ : ∃ r, r = rowOf rows o := ⟨_, rfl⟩
  rw [← hr] at HC ⊢
  clear hr h
  obtain ⟨r1, r2, r3, r4, r5, r6, r7⟩ := r
  simp only [RowD.value] at HC
  have hf := fun w => run_name r1 r2 r3 r4 r5 r6 r7 w
  go_enter Tryd.func124, Tryd.ntmps124
  go_wp2_with fail
  refine HC.out.mono ?_
  rintro e w1 ⟨rfl, hb⟩
  rename_i K1 K2 hK2
  refine hK2 _ _ ?_
  clear hK2
  go_wp2_with fail
  go_ret
  exact ⟨rfl, hb⟩
def signsA : Array Value := #[.int .u8 0, .int .u8 0, .int .u8 0, .int .u8 0, .int .u8 0, .int .u8 0, .int .u8 0, .int .u8 0, .int .u8 99, .int .u8 120, .int .u8 110, .int .u8 121, .int .u8 119, .int .u8 33, .int .u8 120, .int .u8 101, .int .u8 107, .int .u8 115, .int .u8 116, .int .u8 98, .int .u8 117, .int .u8 114, .int .u8 122, .int .u8 63]
theorem sz5 (w : World) : (sizeOf 5).run Tryd.prog w = .ok 1 w := by kernel_rfl
theorem index167 (k : Nat) (cs : Array Value) (v : Value) (hk : k < 24) (h : cs[k]? = some v) (w : World) : (Instr.index 167 (.agg cs) (.int .i64 k)).run Tryd.prog w = .ok v w := by
  have h0 : (0 : Int) ≤ k := by omega
  have h1 : (k : Int) < 24 := by omega
  simp [Instr.index, asIntOf, run_underlying Tryd.underlying167, h0, h1, part, run_underlying Tryd.underlying5, sz5, hk, h]
theorem signs_at (k : Nat) (hk : k < 24) : ∃ c : Nat, signsA[k]? = some (.int .u8 c) ∧ c ≠ 32 ∧ c < 128 := by
  rcases k with _ | _ | _ | _ | _ | _ | _ | _ | _ | _ | _ | _ | _ | _ | _ | _ | _ | _ | _ | _ | _ | _ | _ | _ | k
  all_goals first | omega | exact ⟨_, rfl, by decide, by decide⟩
theorem below_setRow' {w wa : World} {cs : Array Value} (h : Below w.heap.size w wa) : Below w.heap.size w (wa.setRow w.heap.size cs) :=
  h.trans ⟨rfl, rfl, rfl, by simp [World.setRow], fun k hk => setRow_other wa _ k cs (by omega)⟩
theorem wpList_store_all {P : Program} {ops : Array Oper} {rest : List Oper} {op : Oper} {a : Act} {w : World} {Q : Exit → Act → World → Prop} (hgd : op.guard = none) (ty : TypeId) (x y : Operand) (ho : op.op = .store ty x y)
    (g : Nat) (t : TypeId) (old cells : Array Value) (hx : a.eval x = .pointer (some ⟨g, 0, none⟩)) (hy : a.eval y = .agg cells)
    (hg : w.heap[g]? = some (.cells old t (0, 0))) (hi : (P.info? ty).map (·.size) = some cells.size) (hs : old.size = cells.size) (h1 : cells.all (·.oneCell') = true)
    (h : wpList P ops Q rest (a.put op.dst undef) (w.setRow g cells)) : wpList P ops Q (op :: rest) a w :=
  wpList_plain hgd fun _ hK => by
    unfold Oper.wp execOp
    simp only [ho, hx, hy, Instr.storeAt, Instr.sureAddr, Sem.run_bind, Sem.run_pure, Result.andThen_ok, run_storeVar_row w g t ty old cells hg hi hs h1]
    exact hK _ _ h
theorem signs_one : signsA.all (·.oneCell') = true := by kernel_rfl
theorem zeros_nc : (Tryd.prog.info? 167).map (·.size) = some signsA.size := by kernel_rfl
set_option maxRecDepth 100000 in
set_option maxHeartbeats 2000000 in
theorem signs_any (w : World) : Calls Tryd.prog 125 #[] w fun e w' => e = .returned (.agg signsA) ∧ Below w.heap.size w w' := by
  obtain ⟨zs, hzs⟩ : ∃ zs, zs = Array.replicate 24 (Value.int .u8 0) := ⟨_, rfl⟩
  have hz0 : zs.size = signsA.size := by rw [hzs]; rfl
  obtain ⟨wa, ha⟩ : ∃ wa, wa = (w.alloc (Obj.cells zs 167)) := ⟨_, rfl⟩
  have hba : Below w.heap.size w wa := by rw [ha]; exact (Below.refl _ _).alloc (Nat.le_refl _) _
  have hbk : wa.heap[w.heap.size]? = some (.cells zs 167 (0, 0)) := by rw [ha]; exact heap_alloc_new _ _
  have HA := Lib.hid ha
  have HBK := Lib.hid hbk
  have HZ := Lib.hid hzs
  have HZ0 := Lib.hid hz0
  clear ha hbk hzs hz0
  go_enter Tryd.func125, Tryd.ntmps125
  go_upto_region 1 with fail
  have he : (w.alloc (Obj.cells zs 167)) = (w.alloc (Obj.cells #[Value.int .u8 0, .int .u8 0, .int .u8 0, .int .u8 0, .int .u8 0, .int .u8 0, .int .u8 0, .int .u8 0, .int .u8 0, .int .u8 0, .int .u8 0, .int .u8 0, .int .u8 0, .int .u8 0, .int .u8 0, .int .u8 0, .int .u8 0, .int .u8 0, .int .u8 0, .int .u8 0, .int .u8 0, .int .u8 0, .int .u8 0, .int .u8 0] 167)) := by rw [HZ.out]; rfl
  rw [← he, ← HA.out]
  clear he
  go_wp2_with (refine wpList_store_all rfl 167 _ _ rfl w.heap.size 167 zs signsA rfl rfl HBK.out zeros_nc HZ0.out signs_one ?_)
  refine bodyPost_ret (results_cell_row Tryd.results125 _ _ w.heap.size 167 _ (0, 0) _ rfl (setRow_heap _ _ _ _ _ _ HBK.out) Tryd.underlying167 rfl zeros_nc) rfl ?_
  exact ⟨rfl, below_setRow' hba⟩
end Go.Proofs.YtfcoigcenheefaaDoor
