import Derived.Test.YtfcoigcenheefaaDoorEvRight
import Derived.Test.YtfcoigcenheefaaDoorEvSame
set_option linter.unusedVariables false
set_option linter.unusedSimpArgs false
namespace Go.Proofs.YtfcoigcenheefaaDoor
open Go.RowKit
/-- A program as far as it is read: of each function the ops of its code, and how long its marks are. -/
abbrev Fn := List Int × Nat
def FnAt (w : World) (b o : Nat) (f : Fn) : Prop :=
  ∃ ca cc sa sc, w.cell? ⟨b, o, none⟩ = some (.slice ca f.1.length cc) ∧ w.cell? ⟨b, o + 1, none⟩ = some (.slice sa f.2 sc) ∧
    (0 < f.1.length → ∃ b' o', ca = some ⟨b', o', none⟩ ∧ ∀ j, j < f.1.length → w.cell? ⟨b', o' + j * 5, none⟩ = some (.int .i64 (f.1.getD j 0)))
def ProgAt (w : World) (v : Value) (p : List Fn) : Prop :=
  ∃ a c, v = .slice a p.length c ∧ (0 < p.length → ∃ b o, a = some ⟨b, o, none⟩ ∧ ∀ i, i < p.length → FnAt w b (o + i * 2) (p.getD i default))
theorem FnAt.below {w w' : World} {B b o : Nat} {f : Fn} (h : FnAt w b o f) (hb : Below B w w') (hB : w.heap.size ≤ B) : FnAt w' b o f := by
  obtain ⟨ca, cc, sa, sc, h1, h2, h3⟩ := h
  refine ⟨ca, cc, sa, sc, below_cell hb hB h1, below_cell hb hB h2, fun h0 => ?_⟩
  obtain ⟨b', o', h4, h5⟩ := h3 h0
  exact ⟨b', o', h4, fun j hj => below_cell hb hB (h5 j hj)⟩
theorem ProgAt.below {w w' : World} {B : Nat} {v : Value} {p : List Fn} (h : ProgAt w v p) (hb : Below B w w') (hB : w.heap.size ≤ B) : ProgAt w' v p := by
  obtain ⟨a, c, h1, h2⟩ := h
  refine ⟨a, c, h1, fun h0 => ?_⟩
  obtain ⟨b, o, h3, h4⟩ := h2 h0
  exact ⟨b, o, h3, fun i hi => (h4 i hi).below hb hB⟩
def lightF (f : Fn) : Bool := decide (f.1.length ≤ 70) && decide (f.2 ≤ 70)
def lightB (p : List Fn) : Bool := decide (p.length ≤ 20) && p.all lightF
/-- The op of an event; -1: there is none. -/
def opAt (p : List Fn) (fn pc : Int) : Int :=
  if fn < 0 then -1 else if (p.length : Int) ≤ fn then -1 else if pc < 0 then -1 else if ((p.getD fn.toNat default).1.length : Int) ≤ pc then -1 else (p.getD fn.toNat default).1.getD pc.toNat 0
set_option maxRecDepth 100000 in
set_option maxHeartbeats 1000000 in
theorem op_any (w : World) (v : Value) (p : List Fn) (x : Ev) (h : ProgAt w v p) (hp : p.length ≤ 1000) (hq : ∀ i, i < p.length → (p.getD i default).1.length ≤ 1000) :
    Calls Tryd.prog 34 #[.agg #[v], evV x] w fun e w' => e = .returned (.int .i64 (opAt p x.fn x.pc)) ∧ Below w.heap.size w w' := by
  obtain ⟨a, c, rfl, h2⟩ := h
  obtain ⟨kind, g, fn, pc, n⟩ := x
  obtain ⟨m, hm⟩ : ∃ m, m = p.length := ⟨_, rfl⟩
  rw [← hm] at hp ⊢
  have HM := Lib.hid hm
  have H2 := Lib.hid h2
  have HQ := Lib.hid hq
  obtain ⟨wa, ha⟩ : ∃ wa, wa = (w.alloc (Obj.cells #[Value.slice a m c] 44)).alloc (Obj.cells #[.int .i64 kind, .int .i64 g, .int .i64 fn, .int .i64 pc, .int .i64 n] 38) := ⟨_, rfl⟩
  have hba : Below w.heap.size w wa := by rw [ha]; exact ((Below.refl _ _).alloc (Nat.le_refl _) _).alloc (by simp) _
  have c0 : wa.cell? ⟨w.heap.size, 0, none⟩ = some (.slice a m c) := by rw [ha]; exact Lib.cell?_alloc_some _ (by simp)
  have c2 : wa.cell? ⟨w.heap.size + 1, 2, none⟩ = some (.int .i64 fn) := by rw [ha]; simp
  have c3 : wa.cell? ⟨w.heap.size + 1, 3, none⟩ = some (.int .i64 pc) := by rw [ha]; simp
  have HBA := Lib.hid hba
  have HA := Lib.hid ha
  clear hm h2 hq hba ha
  simp only [evV]
  by_cases h1 : fn < 0
  · have HO : Hid (opAt p fn pc = -1) := Lib.hid (if_pos h1)
    go_enter Tryd.func34, Tryd.ntmps34
    go_upto_region 1 with fail
    rw [← HA.out]
    go_quiet (fail)
    go_wp2_with fail
    go_ret
    exact ⟨by rw [HO.out]; rfl, HBA.out.trans (below_drewN _ _ _)⟩
  · by_cases h3 : (m : Int) ≤ fn
    · have HO : Hid (opAt p fn pc = -1) := Lib.hid (by rw [opAt, if_neg h1, if_pos (by have := HM.out; omega)])
      go_enter Tryd.func34, Tryd.ntmps34
      go_upto_region 1 with fail
      rw [← HA.out]
      go_quiet (fail)
      go_wp2_with fail
      go_ret
      exact ⟨by rw [HO.out]; rfl, HBA.out.trans (below_drewN _ _ _)⟩
    · by_cases h4 : pc < 0
      · have HO : Hid (opAt p fn pc = -1) := Lib.hid (by rw [opAt, if_neg h1, if_neg (by have := HM.out; omega), if_pos h4])
        go_enter Tryd.func34, Tryd.ntmps34
        go_upto_region 1 with fail
        rw [← HA.out]
        go_quiet (fail)
        go_wp2_with fail
        go_ret
        exact ⟨by rw [HO.out]; rfl, HBA.out.trans (below_drewN _ _ _)⟩
      · obtain ⟨f, rfl⟩ : ∃ f : Nat, fn = f := ⟨fn.toNat, by omega⟩
        obtain ⟨q, rfl⟩ : ∃ q : Nat, pc = q := ⟨pc.toNat, by omega⟩
        have hfp : f < p.length := by have := HM.out; omega
        obtain ⟨b, o, rfl, hall⟩ := H2.out (by omega)
        obtain ⟨ca, cc, sa, sc, e1, _, e2⟩ := (hall f hfp).below HBA.out (Nat.le_refl _)
        have hq1 := HQ.out f hfp
        obtain ⟨len, hlen⟩ : ∃ len, len = (p.getD f default).1.length := ⟨_, rfl⟩
        rw [← hlen] at e1 e2 hq1
        have k0 : (0 : Int) ≤ (f : Int) := by omega
        have k1 : (f : Int) < (m : Int) := by omega
        clear hall
        have hO1 : opAt p f q = if (len : Int) ≤ (q : Int) then -1 else (p.getD f default).1.getD q 0 := by
          rw [opAt, if_neg h1, if_neg (by have := HM.out; omega), if_neg h4, hlen]; rfl
        by_cases h5 : (len : Int) ≤ (q : Int)
        · have HO : Hid (opAt p f q = -1) := Lib.hid (by rw [hO1, if_pos h5])
          clear hO1 hlen e2
          go_enter Tryd.func34, Tryd.ntmps34
          go_upto_region 1 with fail
          rw [← HA.out]
          go_quiet (fail)
          go_wp2_with fail
          go_ret
          exact ⟨by rw [HO.out]; rfl, HBA.out.trans (below_drewN _ _ _)⟩
        · have HO : Hid (opAt p f q = (p.getD f default).1.getD q 0) := Lib.hid (by rw [hO1, if_neg h5])
          obtain ⟨b', o', rfl, e3⟩ := e2 (by omega)
          have e4 := e3 q (by omega)
          have k2 : (0 : Int) ≤ (q : Int) := by omega
          have k3 : (q : Int) < (len : Int) := by omega
          obtain ⟨r, hr⟩ : ∃ r, r = (p.getD f default).1.getD q 0 := ⟨_, rfl⟩
          rw [← hr] at e4
          have HR := Lib.hid hr
          clear hO1 hlen e3 hr
          go_enter Tryd.func34, Tryd.ntmps34
          go_upto_region 1 with fail
          rw [← HA.out]
          go_quiet (fail)
          go_wp2_with fail
          go_quiet (fail)
          go_wp2_with fail
          go_ret
          exact ⟨by rw [HO.out, ← HR.out]; rfl, (HBA.out.trans (below_drewN _ _ _)).trans (below_drewN _ _ _)⟩
set_option maxRecDepth 100000 in
set_option maxHeartbeats 1000000 in
theorem rop_any (w : World) (v : Value) (p : List Fn) (x : Ev) (h : ProgAt w v p) (hp : p.length ≤ 1000) (hq : ∀ i, i < p.length → (p.getD i default).1.length ≤ 1000) :
    Calls Tryd.prog 35 #[.agg #[v], evV x] w fun e w' => e = .returned (.int .i64 (opAt p x.fn x.pc)) ∧ Below w.heap.size w w' := by
  obtain ⟨a, c, rfl, h2⟩ := h
  obtain ⟨kind, g, fn, pc, n⟩ := x
  obtain ⟨m, hm⟩ : ∃ m, m = p.length := ⟨_, rfl⟩
  rw [← hm] at hp ⊢
  have HM := Lib.hid hm
  have H2 := Lib.hid h2
  have HQ := Lib.hid hq
  obtain ⟨wa, ha⟩ : ∃ wa, wa = (w.alloc (Obj.cells #[Value.slice a m c] 44)).alloc (Obj.cells #[.int .i64 kind, .int .i64 g, .int .i64 fn, .int .i64 pc, .int .i64 n] 38) := ⟨_, rfl⟩
  have hba : Below w.heap.size w wa := by rw [ha]; exact ((Below.refl _ _).alloc (Nat.le_refl _) _).alloc (by simp) _
  have c0 : wa.cell? ⟨w.heap.size, 0, none⟩ = some (.slice a m c) := by rw [ha]; exact Lib.cell?_alloc_some _ (by simp)
  have c2 : wa.cell? ⟨w.heap.size + 1, 2, none⟩ = some (.int .i64 fn) := by rw [ha]; simp
  have c3 : wa.cell? ⟨w.heap.size + 1, 3, none⟩ = some (.int .i64 pc) := by rw [ha]; simp
  have HBA := Lib.hid hba
  have HA := Lib.hid ha
  clear hm h2 hq hba ha
  simp only [evV]
  by_cases h1 : fn < 0
  · have HO : Hid (opAt p fn pc = -1) := Lib.hid (if_pos h1)
    go_enter Tryd.func35, Tryd.ntmps35
    go_upto_region 1 with fail
    rw [← HA.out]
    go_quiet (fail)
    go_wp2_with fail
    go_ret
    exact ⟨by rw [HO.out]; rfl, HBA.out.trans (below_drewN _ _ _)⟩
  · by_cases h3 : (m : Int) ≤ fn
    · have HO : Hid (opAt p fn pc = -1) := Lib.hid (by rw [opAt, if_neg h1, if_pos (by have := HM.out; omega)])
      go_enter Tryd.func35, Tryd.ntmps35
      go_upto_region 1 with fail
      rw [← HA.out]
      go_quiet (fail)
      go_wp2_with fail
      go_ret
      exact ⟨by rw [HO.out]; rfl, HBA.out.trans (below_drewN _ _ _)⟩
    · by_cases h4 : pc < 0
      · have HO : Hid (opAt p fn pc = -1) := Lib.hid (by rw [opAt, if_neg h1, if_neg (by have := HM.out; omega), if_pos h4])
        go_enter Tryd.func35, Tryd.ntmps35
        go_upto_region 1 with fail
        rw [← HA.out]
        go_quiet (fail)
        go_wp2_with fail
        go_ret
        exact ⟨by rw [HO.out]; rfl, HBA.out.trans (below_drewN _ _ _)⟩
      · obtain ⟨f, rfl⟩ : ∃ f : Nat, fn = f := ⟨fn.toNat, by omega⟩
        obtain ⟨q, rfl⟩ : ∃ q : Nat, pc = q := ⟨pc.toNat, by omega⟩
        have hfp : f < p.length := by have := HM.out; omega
        obtain ⟨b, o, rfl, hall⟩ := H2.out (by omega)
        obtain ⟨ca, cc, sa, sc, e1, _, e2⟩ := (hall f hfp).below HBA.out (Nat.le_refl _)
        have hq1 := HQ.out f hfp
        obtain ⟨len, hlen⟩ : ∃ len, len = (p.getD f default).1.length := ⟨_, rfl⟩
        rw [← hlen] at e1 e2 hq1
        have k0 : (0 : Int) ≤ (f : Int) := by omega
        have k1 : (f : Int) < (m : Int) := by omega
        clear hall
        have hO1 : opAt p f q = if (len : Int) ≤ (q : Int) then -1 else (p.getD f default).1.getD q 0 := by
          rw [opAt, if_neg h1, if_neg (by have := HM.out; omega), if_neg h4, hlen]; rfl
        by_cases h5 : (len : Int) ≤ (q : Int)
        · have HO : Hid (opAt p f q = -1) := Lib.hid (by rw [hO1, if_pos h5])
          clear hO1 hlen e2
          go_enter Tryd.func35, Tryd.ntmps35
          go_upto_region 1 with fail
          rw [← HA.out]
          go_quiet (fail)
          go_wp2_with fail
          go_ret
          exact ⟨by rw [HO.out]; rfl, HBA.out.trans (below_drewN _ _ _)⟩
        · have HO : Hid (opAt p f q = (p.getD f default).1.getD q 0) := Lib.hid (by rw [hO1, if_neg h5])
          obtain ⟨b', o', rfl, e3⟩ := e2 (by omega)
          have e4 := e3 q (by omega)
          have k2 : (0 : Int) ≤ (q : Int) := by omega
          have k3 : (q : Int) < (len : Int) := by omega
          obtain ⟨r, hr⟩ : ∃ r, r = (p.getD f default).1.getD q 0 := ⟨_, rfl⟩
          rw [← hr] at e4
          have HR := Lib.hid hr
          clear hO1 hlen e3 hr
          go_enter Tryd.func35, Tryd.ntmps35
          go_upto_region 1 with fail
          rw [← HA.out]
          go_quiet (fail)
          go_wp2_with fail
          go_quiet (fail)
          go_wp2_with fail
          go_ret
          exact ⟨by rw [HO.out, ← HR.out]; rfl, (HBA.out.trans (below_drewN _ _ _)).trans (below_drewN _ _ _)⟩
end Go.Proofs.YtfcoigcenheefaaDoor
