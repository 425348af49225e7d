import Derived.Test.YtfcoigcenheefaaDoorChTab
import Derived.Test.YtfcoigcenheefaaDoorRead
import Derived.Lib.LaidTab
set_option linter.unusedVariables false
set_option linter.unusedSimpArgs false
namespace Go.Proofs.YtfcoigcenheefaaDoor
open Go.RowKit
theorem one_of {cs : List Value} {a off : Nat} {v : Value} (h : (((cs.drop a).take 7).drop off).take 1 = [v]) (hoff : off < 7) : cs[a + off]? = some v := by
  have := congrArg (·[0]?) h
  simpa [List.getElem?_take, List.getElem?_drop, hoff] using this
theorem cells223 : Tryd.prog.cellsOf 223 = 7 := by kernel_rfl
theorem cells9' : Tryd.prog.cellsOf 9 = 1 := by kernel_rfl
theorem cells3' : Tryd.prog.cellsOf 3 = 1 := by kernel_rfl
theorem cells4' : Tryd.prog.cellsOf 4 = 1 := by kernel_rfl
set_option maxRecDepth 100000 in
theorem row_of {enc : TypeId × Value → Unit} {W : World} {cs : List Value} {a fuel : Nat} {x : DataW Unit × List MemPlace} (h : DataW.trod enc Tryd.prog W 0 (fun _ => true) false fuel 223 ((cs.drop a).take 7) = some x) :
    ∃ r : RowD, cs[a]? = some (.string r.name) ∧ cs[a + 1]? = some (.int .i64 r.regs) ∧ cs[a + 2]? = some (.int .i64 r.target) ∧ cs[a + 3]? = some (.bool r.number) ∧ cs[a + 4]? = some (.bool r.waits) ∧ cs[a + 5]? = some (.bool r.ends) ∧ cs[a + 6]? = some (.bool r.asks) := by
  obtain ⟨xs, m, _, _, h3, h4, h5⟩ := DataW.trod_struct Tryd.underlying223 h
  have hx : ∀ i, i < 7 → ∃ y, xs[i]? = some y := fun i hi => ⟨xs[i]'(by rw [h4]; simpa using hi), List.getElem?_eq_getElem _⟩
  obtain ⟨y0, e0⟩ := hx 0 (by decide)
  obtain ⟨y1, e1⟩ := hx 1 (by decide)
  obtain ⟨y2, e2⟩ := hx 2 (by decide)
  obtain ⟨y3, e3⟩ := hx 3 (by decide)
  obtain ⟨y4, e4⟩ := hx 4 (by decide)
  obtain ⟨y5, e5⟩ := hx 5 (by decide)
  obtain ⟨y6, e6⟩ := hx 6 (by decide)
  have k0 : DataW.trod enc Tryd.prog W 0 (fun _ => true) false m 9 ((((cs.drop a).take 7).drop 0).take 1) = some y0 := by
    have h := (h5 0 _ rfl).trans e0
    change DataW.trod enc Tryd.prog W 0 (fun _ => true) false m 9 ((((cs.drop a).take 7).drop 0).take (Tryd.prog.cellsOf 9)) = some y0 at h
    rw [cells9'] at h
    exact h
  have k1 : DataW.trod enc Tryd.prog W 0 (fun _ => true) false m 3 ((((cs.drop a).take 7).drop 1).take 1) = some y1 := by
    have h := (h5 1 _ rfl).trans e1
    change DataW.trod enc Tryd.prog W 0 (fun _ => true) false m 3 ((((cs.drop a).take 7).drop 1).take (Tryd.prog.cellsOf 3)) = some y1 at h
    rw [cells3'] at h
    exact h
  have k2 : DataW.trod enc Tryd.prog W 0 (fun _ => true) false m 3 ((((cs.drop a).take 7).drop 2).take 1) = some y2 := by
    have h := (h5 2 _ rfl).trans e2
    change DataW.trod enc Tryd.prog W 0 (fun _ => true) false m 3 ((((cs.drop a).take 7).drop 2).take (Tryd.prog.cellsOf 3)) = some y2 at h
    rw [cells3'] at h
    exact h
  have k3 : DataW.trod enc Tryd.prog W 0 (fun _ => true) false m 4 ((((cs.drop a).take 7).drop 3).take 1) = some y3 := by
    have h := (h5 3 _ rfl).trans e3
    change DataW.trod enc Tryd.prog W 0 (fun _ => true) false m 4 ((((cs.drop a).take 7).drop 3).take (Tryd.prog.cellsOf 4)) = some y3 at h
    rw [cells4'] at h
    exact h
  have k4 : DataW.trod enc Tryd.prog W 0 (fun _ => true) false m 4 ((((cs.drop a).take 7).drop 4).take 1) = some y4 := by
    have h := (h5 4 _ rfl).trans e4
    change DataW.trod enc Tryd.prog W 0 (fun _ => true) false m 4 ((((cs.drop a).take 7).drop 4).take (Tryd.prog.cellsOf 4)) = some y4 at h
    rw [cells4'] at h
    exact h
  have k5 : DataW.trod enc Tryd.prog W 0 (fun _ => true) false m 4 ((((cs.drop a).take 7).drop 5).take 1) = some y5 := by
    have h := (h5 5 _ rfl).trans e5
    change DataW.trod enc Tryd.prog W 0 (fun _ => true) false m 4 ((((cs.drop a).take 7).drop 5).take (Tryd.prog.cellsOf 4)) = some y5 at h
    rw [cells4'] at h
    exact h
  have k6 : DataW.trod enc Tryd.prog W 0 (fun _ => true) false m 4 ((((cs.drop a).take 7).drop 6).take 1) = some y6 := by
    have h := (h5 6 _ rfl).trans e6
    change DataW.trod enc Tryd.prog W 0 (fun _ => true) false m 4 ((((cs.drop a).take 7).drop 6).take (Tryd.prog.cellsOf 4)) = some y6 at h
    rw [cells4'] at h
    exact h
  obtain ⟨n0, g0, _⟩ := DataW.trod_string Tryd.underlying9 k0
  obtain ⟨n1, g1, _⟩ := DataW.trod_int Tryd.underlying3 k1
  obtain ⟨n2, g2, _⟩ := DataW.trod_int Tryd.underlying3 k2
  obtain ⟨n3, g3, _⟩ := DataW.trod_bool Tryd.underlying4 k3
  obtain ⟨n4, g4, _⟩ := DataW.trod_bool Tryd.underlying4 k4
  obtain ⟨n5, g5, _⟩ := DataW.trod_bool Tryd.underlying4 k5
  obtain ⟨n6, g6, _⟩ := DataW.trod_bool Tryd.underlying4 k6
  exact ⟨⟨n0, n1, n2, n3, n4, n5, n6⟩, one_of (off := 0) g0 (by decide), one_of (off := 1) g1 (by decide), one_of (off := 2) g2 (by decide), one_of (off := 3) g3 (by decide), one_of (off := 4) g4 (by decide), one_of (off := 5) g5 (by decide), one_of (off := 6) g6 (by decide)⟩
theorem rowTab_of {W : World} {d : DataW Unit} {r : List (String × DataW Unit)} (h : laidMet Tryd.prog (("escapement/isa.rows", d) :: r) W) : ∃ rows, RowTab W rows := by
  obtain ⟨ps, ⟨g', t', cs, fuel, p, q, hg, ht, hvar, hd, _, _⟩, _⟩ := h
  have hg0 : Tryd.prog.globalNamed "escapement/isa.rows" = some 0 := by kernel_rfl
  have ht0 : (Tryd.prog.globals[0]?).map (·.type) = some 239 := by kernel_rfl
  obtain rfl := Option.some.inj (hg0.symm.trans hg)
  obtain rfl := Option.some.inj (ht0.symm.trans ht)
  obtain ⟨xs, m, _, _, hlen, hxl, hall⟩ := DataW.trod_array Tryd.underlying239 hd
  have one : ∀ o, o < 24 → ∃ r : RowD, RowAt W o r := fun o ho => by
    have h1 := hall o ho
    rw [cells223, List.getElem?_eq_getElem (by omega)] at h1
    obtain ⟨r, e0, e1, e2, e3, e4, e5, e6⟩ := row_of h1
    have cell := fun (i : Nat) => World.var?_cell hg hvar i
    refine ⟨r, ?_, ?_, ?_, ?_, ?_, ?_, ?_⟩ <;> (rw [cell]; rw [← Array.getElem?_toList]; assumption)
  obtain ⟨rows, hr1, hr2⟩ := list_of one
  exact ⟨rows, hr1, hr2⟩
end Go.Proofs.YtfcoigcenheefaaDoor
