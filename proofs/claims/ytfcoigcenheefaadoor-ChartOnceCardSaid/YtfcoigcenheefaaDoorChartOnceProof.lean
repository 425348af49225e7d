/-
  escapementlaw43.ChartOnce: whatever the input: the call returns true, and the input reads as it did. Its row lists the table of instructions and three tables of Go's own; the walk reads the first.
-/
import Derived.Test.YtfcoigcenheefaaDoorCards
import Derived.Test.YtfcoigcenheefaaDoorTie
import Derived.Test.YtfcoigcenheefaaDoorChLaw
import Derived.Test.YtfcoigcenheefaaDoorChTabOf
import Derived.Test.YtfcoigcenheefaaDoorRead
import Derived.ChangeOld
import Derived.Below
import Derived.Deep.DeepHandedRow
import Derived.Lib.LaidTab
import Derived.LaidSub
set_option linter.unusedVariables false
set_option linter.unusedSimpArgs false
namespace Go.Proofs.YtfcoigcenheefaaDoor
open Go.ChangeShapes Go.WideShapes Go.ChangeAt Go.RowKit
namespace ChartOnceDone

theorem own : ownKnob Tryd.prog.godebug = none := by kernel_rfl
theorem laidOut : laidOutB Tryd.prog = true := by kernel_rfl
theorem cells3 : Tryd.prog.cellsOf 3 = 1 := by kernel_rfl
theorem cells2 : Tryd.prog.cellsOf 2 = 1 := by kernel_rfl
theorem cells38 : Tryd.prog.cellsOf 38 = 5 := by kernel_rfl
theorem cells112 : Tryd.prog.cellsOf 112 = 1 := by kernel_rfl
theorem cells58 : Tryd.prog.cellsOf 58 = 1 := by kernel_rfl
theorem cells4 : Tryd.prog.cellsOf 4 = 1 := by kernel_rfl
theorem cells114 : Tryd.prog.cellsOf 114 = 2 := by kernel_rfl
theorem cells116 : Tryd.prog.cellsOf 116 = 5 := by kernel_rfl
section
variable {H : Type} {enc : TypeId × Value → H} {w : World}
set_option maxRecDepth 100000 in
theorem ev_of {b o : Nat} (h : RdAt enc Tryd.prog w 38 b o) : ∃ e, EvAt w b o e ∧ NumOk e := by
  obtain ⟨n0, g0, _⟩ := rdAt_int Tryd.underlying3 cells3 (rdAt_field Tryd.underlying38 h 0 _ rfl (of_decide_eq_true (by kernel_rfl)))
  obtain ⟨n1, g1, _⟩ := rdAt_int Tryd.underlying3 cells3 (rdAt_field Tryd.underlying38 h 1 _ rfl (of_decide_eq_true (by kernel_rfl)))
  obtain ⟨n2, g2, _⟩ := rdAt_int Tryd.underlying3 cells3 (rdAt_field Tryd.underlying38 h 2 _ rfl (of_decide_eq_true (by kernel_rfl)))
  obtain ⟨n3, g3, _⟩ := rdAt_int Tryd.underlying3 cells3 (rdAt_field Tryd.underlying38 h 3 _ rfl (of_decide_eq_true (by kernel_rfl)))
  obtain ⟨n4, g4, h4⟩ := rdAt_int Tryd.underlying2 cells2 (rdAt_field Tryd.underlying38 h 4 _ rfl (of_decide_eq_true (by kernel_rfl)))
  exact ⟨⟨n0, n1, n2, n3, n4⟩, ⟨g0, g1, g2, g3, g4⟩, wf_bd h4⟩
theorem evs_of {a : Option Addr} {len cap : Nat} (h : Rd enc Tryd.prog w 22 [.slice a len cap]) : ∃ l : List Ev, l.length = len ∧ (len ≤ cap ∧ cap ≤ maxLen) ∧ EvsAt w (.slice a len cap) l ∧ ∀ k, k < l.length → NumOk (l.getD k default) := by
  obtain ⟨a', len', cap', e1, hlc, hcm, _, b, o, hab, hall⟩ := rd_slice Tryd.underlying22 (by rw [cells38]; omega) h
  simp at e1
  obtain ⟨rfl, rfl, rfl⟩ := e1
  rw [cells38] at hall
  obtain ⟨l, hl1, hl2⟩ := list_of (fun i hi => ev_of (hall i hi))
  subst hl1
  exact ⟨l, rfl, ⟨hlc, hcm⟩, ⟨a, cap, rfl, fun h0 => ⟨b, o, hab h0, fun i hi => (hl2 i hi).1⟩⟩, fun k hk => (hl2 k hk).2⟩
set_option maxRecDepth 100000 in
theorem ins_of {b o : Nat} (h : RdAt enc Tryd.prog w 116 b o) : ∃ n : Int, w.cell? ⟨b, o, none⟩ = some (.int .i64 n) := by
  obtain ⟨n0, g0, _⟩ := rdAt_int Tryd.underlying3 cells3 (rdAt_field Tryd.underlying116 h 0 _ rfl (of_decide_eq_true (by kernel_rfl)))
  exact ⟨n0, g0⟩
set_option maxRecDepth 100000 in
theorem fn_of {b o : Nat} (h : RdAt enc Tryd.prog w 114 b o) : ∃ f : Fn, FnAt w b o f ∧ (f.1.length ≤ maxLen ∧ f.2 ≤ maxLen) := by
  obtain ⟨ca, cn, cc, g0, l0, m0, _, b', o', hab, hall⟩ := rdAt_slice Tryd.underlying112 (by rw [cells116]; omega) cells112 (rdAt_field Tryd.underlying114 h 0 _ rfl (of_decide_eq_true (by kernel_rfl)))
  obtain ⟨sa, sn, sc, g1, l1, m1, _⟩ := rdAt_slice Tryd.underlying58 (by rw [cells4]; omega) cells58 (rdAt_field Tryd.underlying114 h 1 _ rfl (of_decide_eq_true (by kernel_rfl)))
  rw [cells116] at hall
  obtain ⟨l, hl1, hl2⟩ := list_of (fun i hi => ins_of (hall i hi))
  subst hl1
  exact ⟨(l, sn), ⟨ca, cc, sa, sc, g0, g1, fun h0 => ⟨b', o', hab h0, hl2⟩⟩, Nat.le_trans l0 m0, Nat.le_trans l1 m1⟩
theorem prog_of {v : Value} (h : Rd enc Tryd.prog w 44 [v]) : ∃ p : List Fn, ProgAt w v p ∧ p.length ≤ maxLen ∧ ∀ i, i < p.length → (p.getD i default).1.length ≤ maxLen ∧ (p.getD i default).2 ≤ maxLen := by
  obtain ⟨_, hf⟩ := rd_struct Tryd.underlying44 h
  have h0 := hf 0 _ rfl
  have h1 : Rd enc Tryd.prog w 42 [v] := by
    have c42 : Tryd.prog.cellsOf 42 = 1 := by kernel_rfl
    simpa [c42] using h0
  obtain ⟨a, len, cap, e1, hlc, hcm, _, b, o, hab, hall⟩ := rd_slice Tryd.underlying42 (by rw [cells114]; omega) h1
  simp at e1
  subst e1
  rw [cells114] at hall
  obtain ⟨l, hl1, hl2⟩ := list_of (fun i hi => fn_of (hall i hi))
  subst hl1
  exact ⟨l, ⟨a, cap, rfl, fun h0 => ⟨b, o, hab h0, fun i hi => (hl2 i hi).1⟩⟩, Nat.le_trans hlc hcm, fun i hi => (hl2 i hi).2⟩
end

mutual
/-- The cells that a laid table's data are. -/
def flat : DataW Unit → List Value
  | .lit l => [l.value]
  | .agg ps => flats ps
  | _ => []
def flats : List (DataW Unit) → List Value
  | [] => []
  | d :: ds => flat d ++ flats ds
end

set_option maxRecDepth 100000 in
theorem contract (H : Type) (enc : TypeId × Value → H) (W : World) (base : Nat) (args : Array Value) (ds gs : List (DataW H)) (before : List MemPlace)
    (hval0 : ∀ (j : Nat) t v, Tryd.f10.params[j]? = some t → args[j]? = some v → Value.okWide Tryd.prog W .any base t v)
    (hW : DataW.Whole enc Tryd.prog Tryd.f10.params.toList Rows.chartOnceSpec.vars false W args.toList ds gs before) (rows : List RowD) (htab : RowTab W rows) :
    Calls Tryd.prog 10 args W fun e W' => ∃ v, e = .returned v ∧ Rows.chartOnceSpec.post enc Tryd.prog Tryd.f10 false true false false W args v W' := by
  have hval : ∀ (j : Nat) t v, Tryd.f10.params[j]? = some t → args[j]? = some v → Value.okWide Tryd.prog W .any base t v := hval0
  have hW' := hW
  obtain ⟨p, q, hA0, hV, rfl, hfz, hnd⟩ := hW
  have hA : DataW.TrodAll enc Tryd.prog W 0 (fun _ => true) true Tryd.f10.params.toList args.toList ds p := hA0
  rw [Tryd.params10] at hA hval
  obtain ⟨v0, vs0, d0, ds0, p0, q0, hargs, rfl, rfl, h0, r0⟩ := trodAll_cons hA
  obtain ⟨v1, vs1, d1, ds1, p1, q1, rfl, rfl, rfl, h1, r1⟩ := trodAll_cons r0
  obtain ⟨rfl, rfl, rfl⟩ := trodAll_nil r1
  obtain rfl : args = #[v0, v1] := by cases args; simp_all
  obtain ⟨rfl, rfl⟩ := trodVars_none hV
  obtain ⟨cs0, rfl, hcs⟩ := okWide_struct Tryd.underlying44 (hval 0 44 v0 rfl rfl)
  have c44 : Tryd.prog.cellsOf 44 = 1 := by kernel_rfl
  rw [c44] at hcs
  obtain ⟨u0, rfl⟩ : ∃ u, cs0 = #[u] := by
    obtain ⟨l⟩ := cs0
    match l, hcs with
    | [u], _ => exact ⟨u, rfl⟩
  obtain ⟨a1, len1, cap1, rfl⟩ := okWide_slice Tryd.underlying22 (hval 1 22 v1 rfl rfl)
  have k0 := h0
  have k1 := h1
  have lt0 : ∀ x ∈ p0, x.block < W.heap.size := by obtain ⟨m, hm⟩ := k0; exact DataW.trod_lt m _ _ _ hm
  have lt1 : ∀ x ∈ p1, x.block < W.heap.size := by obtain ⟨m, hm⟩ := k1; exact DataW.trod_lt m _ _ _ hm
  obtain ⟨f0, hf0⟩ := h0
  obtain ⟨f1, hf1⟩ := h1
  obtain ⟨p, hp1, hp2, hp3⟩ := prog_of (enc := enc) (w := W) (v := u0) ⟨f0, _, hf0⟩
  obtain ⟨ys, hy1, hy2, hy3, _⟩ := evs_of (enc := enc) (w := W) (a := a1) (len := len1) (cap := cap1) ⟨f1, _, hf1⟩
  subst hy1
  clear hA0 hval0
  refine (chartOnce_any W u0 _ p ys rows hp1 hp2 hp3 htab hy3 (Nat.le_trans hy2.1 hy2.2) (fun a c e => by simp only [Value.slice.injEq] at e; obtain ⟨_, _, rfl⟩ := e; exact hy2)).mono fun e W' ⟨he, bel⟩ => ?_
  subst he
  exact ⟨_, rfl, _, _, _, [], _, [], hW', trodAll_mk1 (shut_bool Tryd.underlying4 _), (trodAll_cons_mk (Below.trod laidOut (by kernel_rfl) (of_decide_eq_true (by kernel_rfl)) k0 bel lt0) (trodAll_cons_mk (Below.trod laidOut (by kernel_rfl) (of_decide_eq_true (by kernel_rfl)) k1 bel lt1) trodAll_mk0)), rfl, bel.frame _, fun h => by cases h⟩

def wArgs : Array Value := #[.agg #[.slice none 0 0], .slice none 0 0]
def lay (d : DataW Unit) : Obj → Obj
  | .cells _ t frozen => .cells (flat d).toArray t frozen
  | o => o
/-- A world for the witness: the settled one, the tables holding what their initialisers lay. -/
noncomputable def laidWorld (os : Os) : World :=
  { World.holding Tryd.prog os ⟨#[], #[], []⟩ with heap := ((((World.holding Tryd.prog os ⟨#[], #[], []⟩).heap.modify 0 (lay Rows.laid_escapement_isa_rows)).modify 3 (lay Rows.laid_math_bits_deBruijn32tab)).modify 4 (lay Rows.laid_math_bits_deBruijn64tab)).modify 1 (lay Rows.laid_internal_strconv_uint64pow10) }
theorem laid_met (os : Os) : laidMet Tryd.prog Rows.chartOnceRow.laid ((laidWorld os).forCall (fun _ _ => 0) ⟨#[], wArgs, []⟩).memory :=
  laidMet_of_run' 16 (by kernel_rfl) (by kernel_rfl)
theorem reads (os : Os) {H : Type} (enc : TypeId × Value → H) : ∃ places, DataW.whole enc Tryd.prog ((laidWorld os).forCall (fun _ _ => 0) ⟨#[], wArgs, []⟩).memory Tryd.f10.params.toList Rows.chartOnceSpec.vars false wArgs.toList 8 = some ([.agg [.nil], .nil], [], places) :=
  ⟨[], by kernel_rfl⟩

set_option maxRecDepth 100000 in
theorem lifted (os : Os) (started : os.Started) (H : Type) (enc : TypeId × Value → H) (F : Stop.Interp) :
    ReturnsInHanded {} Tryd.checked os 10 .any ((OpenSpec.ofChange Rows.chartOnceSpec).preRow enc Tryd.prog Tryd.f10 Rows.chartOnceRow.domain false Rows.chartOnceRow.laid) (((OpenSpec.ofChange Rows.chartOnceSpec).at F).post enc Tryd.prog Tryd.f10 false true false false) := by
  obtain ⟨places, hx⟩ := reads os enc
  refine returnsInHanded_of_row (C := Tryd.checked) (s := OpenSpec.ofChange Rows.chartOnceSpec) own started (by kernel_rfl) Tryd.func10
    (witness_row_at (enc := enc) (C := Tryd.checked) false (laidWorld os) wArgs rfl (by kernel_rfl) (by kernel_rfl) (by kernel_rfl)
      (OpenSpec.preRow_of_cond 8 hx (by kernel_rfl) (fun k hk => by cases hk) (by kernel_rfl) (laid_met os))) ?_
  intro W base args ds gs before hval hW _ _ _ hL _ _
  obtain ⟨rows, hrows⟩ := rowTab_of hL
  exact contract H enc W base args ds gs before hval hW rows hrows

set_option maxRecDepth 100000 in
theorem said : Rows.ChartOnceSaid :=
  OpenClaim.holds_of_cond 10 Tryd.f10 rfl rfl rfl rfl rfl rfl rfl ⟨rfl, rfl, rfl, rfl, rfl⟩ rfl rfl rfl rfl rfl (by kernel_rfl) Tryd.func10 (by kernel_rfl)
    (of_decide_eq_true (by kernel_rfl)) (by unfold Func.isWrapper; first | (rw [if_pos (by decide +kernel)]; kernel_rfl) | (rw [if_neg (by decide +kernel)]; exact ⟨rfl, rfl⟩))
    (fun os started H enc _ F => by rw [OpenClaim.pre_eq_preRow]; exact lifted os started H enc F)

set_option maxRecDepth 100000 in
theorem plain (f : FuncId) (fn : Func) (hf : Tryd.pinned.checked.prog.funcNamed "escapement/escapementlaw43.ChartOnce" = some f) (hfn : Tryd.pinned.checked.prog.funcs[f]? = some fn) :
    false = Tryd.pinned.checked.prog.looks [] ∧ ∀ (j : Nat) t, fn.params[j]? = some t → Tryd.pinned.checked.prog.wantsStandIn t = false := by
  obtain rfl : f = 10 := Option.some.inj ((show Tryd.prog.funcNamed "escapement/escapementlaw43.ChartOnce" = some 10 by kernel_rfl).symm.trans hf) |>.symm
  obtain rfl : fn = Tryd.f10 := (Option.some.inj (Tryd.func10.symm.trans hfn)).symm
  refine ⟨by kernel_rfl, fun j t ht => ?_⟩
  rw [Tryd.params10] at ht
  have := Array.mem_of_getElem? ht
  simp at this
  rcases this with rfl | rfl
  · exact (show Tryd.prog.wantsStandIn 44 = false by kernel_rfl)
  · exact (show Tryd.prog.wantsStandIn 22 = false by kernel_rfl)

set_option maxRecDepth 100000 in
theorem card : Rows.ChartOnceCardSaid :=
  Claim7.holds_tied_plain_at .later [] _ _ _ _ said (fun _ h => by cases h) (by kernel_rfl) (fun _ h => by cases h) chartOnce_row_tie rfl ⟨rfl, rfl⟩ (by kernel_rfl) rfl plain (by kernel_rfl)
end ChartOnceDone
theorem chartOnce_holds : Rows.ChartOnceCardSaid := ChartOnceDone.card
#print axioms chartOnce_holds
end Go.Proofs.YtfcoigcenheefaaDoor
