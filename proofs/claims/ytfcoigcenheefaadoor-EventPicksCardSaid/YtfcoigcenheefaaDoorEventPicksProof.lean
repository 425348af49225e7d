/-
  escapementlaw29.EventPicks: whatever the input: the call returns true, and the input reads as it did. Its row lists three tables of Go's own; the walk reads one of them, the powers of ten.
-/
import Derived.Test.YtfcoigcenheefaaDoorCards
import Derived.Test.YtfcoigcenheefaaDoorTie
import Derived.Test.YtfcoigcenheefaaDoorPkLaw
import Derived.Test.YtfcoigcenheefaaDoorRead
import Derived.ChangeOld
import Derived.Below
import Derived.Deep.DeepHandedRow
import Derived.Lib.LaidTab
import Derived.LaidSub
set_option linter.unusedVariables false
set_option linter.unusedSimpArgs false
namespace Go.Proofs.YtfcoigcenheefaaDoor
open Go.ChangeShapes Go.WideShapes Go.ChangeAt Go.RowKit
namespace EventPicksDone

theorem own : ownKnob Tryd.prog.godebug = none := by kernel_rfl
theorem laidOut : laidOutB Tryd.prog = true := by kernel_rfl
theorem cells3 : Tryd.prog.cellsOf 3 = 1 := by kernel_rfl
theorem cells2 : Tryd.prog.cellsOf 2 = 1 := by kernel_rfl
theorem cells38 : Tryd.prog.cellsOf 38 = 5 := by kernel_rfl
theorem cells112 : Tryd.prog.cellsOf 112 = 1 := by kernel_rfl
theorem cells58 : Tryd.prog.cellsOf 58 = 1 := by kernel_rfl
theorem cells4 : Tryd.prog.cellsOf 4 = 1 := by kernel_rfl
theorem cells114 : Tryd.prog.cellsOf 114 = 2 := by kernel_rfl
theorem cells116 : Tryd.prog.cellsOf 116 = 5 := by kernel_rfl
section
variable {H : Type} {enc : TypeId × Value → H} {w : World}
set_option maxRecDepth 100000 in
theorem ev_of {b o : Nat} (h : RdAt enc Tryd.prog w 38 b o) : ∃ e, EvAt w b o e ∧ NumOk e := by
  obtain ⟨n0, g0, _⟩ := rdAt_int Tryd.underlying3 cells3 (rdAt_field Tryd.underlying38 h 0 _ rfl (of_decide_eq_true (by kernel_rfl)))
  obtain ⟨n1, g1, _⟩ := rdAt_int Tryd.underlying3 cells3 (rdAt_field Tryd.underlying38 h 1 _ rfl (of_decide_eq_true (by kernel_rfl)))
  obtain ⟨n2, g2, _⟩ := rdAt_int Tryd.underlying3 cells3 (rdAt_field Tryd.underlying38 h 2 _ rfl (of_decide_eq_true (by kernel_rfl)))
  obtain ⟨n3, g3, _⟩ := rdAt_int Tryd.underlying3 cells3 (rdAt_field Tryd.underlying38 h 3 _ rfl (of_decide_eq_true (by kernel_rfl)))
  obtain ⟨n4, g4, h4⟩ := rdAt_int Tryd.underlying2 cells2 (rdAt_field Tryd.underlying38 h 4 _ rfl (of_decide_eq_true (by kernel_rfl)))
  exact ⟨⟨n0, n1, n2, n3, n4⟩, ⟨g0, g1, g2, g3, g4⟩, wf_bd h4⟩
theorem evs_of {a : Option Addr} {len cap : Nat} (h : Rd enc Tryd.prog w 22 [.slice a len cap]) : ∃ l : List Ev, l.length = len ∧ len ≤ maxLen ∧ EvsAt w (.slice a len cap) l ∧ ∀ k, k < l.length → NumOk (l.getD k default) := by
  obtain ⟨a', len', cap', e1, hlc, hcm, _, b, o, hab, hall⟩ := rd_slice Tryd.underlying22 (by rw [cells38]; omega) h
  simp at e1
  obtain ⟨rfl, rfl, rfl⟩ := e1
  rw [cells38] at hall
  obtain ⟨l, hl1, hl2⟩ := list_of (fun i hi => ev_of (hall i hi))
  subst hl1
  exact ⟨l, rfl, Nat.le_trans hlc hcm, ⟨a, cap, rfl, fun h0 => ⟨b, o, hab h0, fun i hi => (hl2 i hi).1⟩⟩, fun k hk => (hl2 k hk).2⟩
set_option maxRecDepth 100000 in
theorem ins_of {b o : Nat} (h : RdAt enc Tryd.prog w 116 b o) : ∃ n : Int, w.cell? ⟨b, o, none⟩ = some (.int .i64 n) := by
  obtain ⟨n0, g0, _⟩ := rdAt_int Tryd.underlying3 cells3 (rdAt_field Tryd.underlying116 h 0 _ rfl (of_decide_eq_true (by kernel_rfl)))
  exact ⟨n0, g0⟩
set_option maxRecDepth 100000 in
theorem fn_of {b o : Nat} (h : RdAt enc Tryd.prog w 114 b o) : ∃ f : Fn, FnAt w b o f ∧ (f.1.length ≤ maxLen ∧ f.2 ≤ maxLen) := by
  obtain ⟨ca, cn, cc, g0, l0, m0, _, b', o', hab, hall⟩ := rdAt_slice Tryd.underlying112 (by rw [cells116]; omega) cells112 (rdAt_field Tryd.underlying114 h 0 _ rfl (of_decide_eq_true (by kernel_rfl)))
  obtain ⟨sa, sn, sc, g1, l1, m1, _⟩ := rdAt_slice Tryd.underlying58 (by rw [cells4]; omega) cells58 (rdAt_field Tryd.underlying114 h 1 _ rfl (of_decide_eq_true (by kernel_rfl)))
  rw [cells116] at hall
  obtain ⟨l, hl1, hl2⟩ := list_of (fun i hi => ins_of (hall i hi))
  subst hl1
  exact ⟨(l, sn), ⟨ca, cc, sa, sc, g0, g1, fun h0 => ⟨b', o', hab h0, hl2⟩⟩, Nat.le_trans l0 m0, Nat.le_trans l1 m1⟩
theorem prog_of {v : Value} (h : Rd enc Tryd.prog w 44 [v]) : ∃ p : List Fn, ProgAt w v p ∧ p.length ≤ maxLen ∧ ∀ i, i < p.length → (p.getD i default).1.length ≤ maxLen ∧ (p.getD i default).2 ≤ maxLen := by
  obtain ⟨_, hf⟩ := rd_struct Tryd.underlying44 h
  have h0 := hf 0 _ rfl
  have h1 : Rd enc Tryd.prog w 42 [v] := by
    have c42 : Tryd.prog.cellsOf 42 = 1 := by kernel_rfl
    simpa [c42] using h0
  obtain ⟨a, len, cap, e1, hlc, hcm, _, b, o, hab, hall⟩ := rd_slice Tryd.underlying42 (by rw [cells114]; omega) h1
  simp at e1
  subst e1
  rw [cells114] at hall
  obtain ⟨l, hl1, hl2⟩ := list_of (fun i hi => fn_of (hall i hi))
  subst hl1
  exact ⟨l, ⟨a, cap, rfl, fun h0 => ⟨b, o, hab h0, fun i hi => (hl2 i hi).1⟩⟩, Nat.le_trans hlc hcm, fun i hi => (hl2 i hi).2⟩
end

mutual
/-- The cells that a laid table's data are. -/
def flat : DataW Unit → List Value
  | .lit l => [l.value]
  | .agg ps => flats ps
  | _ => []
def flats : List (DataW Unit) → List Value
  | [] => []
  | d :: ds => flat d ++ flats ds
end

set_option maxRecDepth 100000 in
theorem contract (H : Type) (enc : TypeId × Value → H) (W : World) (base : Nat) (args : Array Value) (ds gs : List (DataW H)) (before : List MemPlace)
    (hval0 : ∀ (j : Nat) t v, Tryd.f7.params[j]? = some t → args[j]? = some v → Value.okWide Tryd.prog W .any base t v)
    (hW : DataW.Whole enc Tryd.prog Tryd.f7.params.toList Rows.eventPicksSpec.vars false W args.toList ds gs before) (htab : TabP W) :
    Calls Tryd.prog 7 args W fun e W' => ∃ v, e = .returned v ∧ Rows.eventPicksSpec.post enc Tryd.prog Tryd.f7 false true false false W args v W' := by
  have hval : ∀ (j : Nat) t v, Tryd.f7.params[j]? = some t → args[j]? = some v → Value.okWide Tryd.prog W .any base t v := hval0
  have hW' := hW
  obtain ⟨p, q, hA0, hV, rfl, hfz, hnd⟩ := hW
  have hA : DataW.TrodAll enc Tryd.prog W 0 (fun _ => true) true Tryd.f7.params.toList args.toList ds p := hA0
  rw [Tryd.params7] at hA hval
  obtain ⟨v0, vs0, d0, ds0, p0, q0, hargs, rfl, rfl, h0, r0⟩ := trodAll_cons hA
  obtain ⟨v1, vs1, d1, ds1, p1, q1, rfl, rfl, rfl, h1, r1⟩ := trodAll_cons r0
  obtain ⟨v2, vs2, d2, ds2, p2, q2, rfl, rfl, rfl, h2, r2⟩ := trodAll_cons r1
  obtain ⟨rfl, rfl, rfl⟩ := trodAll_nil r2
  obtain rfl : args = #[v0, v1, v2] := by cases args; simp_all
  obtain ⟨rfl, rfl⟩ := trodVars_none hV
  obtain ⟨g, rfl, rfl, rfl, w2⟩ := open_int Tryd.underlying3 (hval 2 3 v2 rfl rfl) h2
  obtain ⟨cs0, rfl, hcs⟩ := okWide_struct Tryd.underlying44 (hval 0 44 v0 rfl rfl)
  have c44 : Tryd.prog.cellsOf 44 = 1 := by kernel_rfl
  rw [c44] at hcs
  obtain ⟨u0, rfl⟩ : ∃ u, cs0 = #[u] := by
    obtain ⟨l⟩ := cs0
    match l, hcs with
    | [u], _ => exact ⟨u, rfl⟩
  obtain ⟨a1, len1, cap1, rfl⟩ := okWide_slice Tryd.underlying22 (hval 1 22 v1 rfl rfl)
  have k0 := h0
  have k1 := h1
  have lt0 : ∀ x ∈ p0, x.block < W.heap.size := by obtain ⟨m, hm⟩ := k0; exact DataW.trod_lt m _ _ _ hm
  have lt1 : ∀ x ∈ p1, x.block < W.heap.size := by obtain ⟨m, hm⟩ := k1; exact DataW.trod_lt m _ _ _ hm
  obtain ⟨f0, hf0⟩ := h0
  obtain ⟨f1, hf1⟩ := h1
  obtain ⟨p, hp1, hp2, hp3⟩ := prog_of (enc := enc) (w := W) (v := u0) ⟨f0, _, hf0⟩
  obtain ⟨ys, hy1, hy2, hy3, _⟩ := evs_of (enc := enc) (w := W) (a := a1) (len := len1) (cap := cap1) ⟨f1, _, hf1⟩
  subst hy1
  clear hA0 hval0
  refine (eventPicks_any W u0 _ p ys g hp1 hp2 hp3 hy3 hy2 htab).mono fun e W' ⟨he, bel⟩ => ?_
  subst he
  exact ⟨_, rfl, _, _, _, [], _, [], hW', trodAll_mk1 (shut_bool Tryd.underlying4 _), (trodAll_cons_mk (Below.trod laidOut (by kernel_rfl) (of_decide_eq_true (by kernel_rfl)) k0 bel lt0) (trodAll_cons_mk (Below.trod laidOut (by kernel_rfl) (of_decide_eq_true (by kernel_rfl)) k1 bel lt1) (trodAll_cons_mk (shut_int Tryd.underlying3 w2) trodAll_mk0))), rfl, bel.frame _, fun h => by cases h⟩

def wArgs : Array Value := #[.agg #[.slice none 0 0], .slice none 0 0, .int .i64 0]
def lay (d : DataW Unit) : Obj → Obj
  | .cells _ t frozen => .cells (flat d).toArray t frozen
  | o => o
/-- A world for the witness: the settled one, the tables holding what their initialisers lay. -/
noncomputable def laidWorld (os : Os) : World :=
  { World.holding Tryd.prog os ⟨#[], #[], []⟩ with heap := (((World.holding Tryd.prog os ⟨#[], #[], []⟩).heap.modify 3 (lay Rows.laid_math_bits_deBruijn32tab)).modify 4 (lay Rows.laid_math_bits_deBruijn64tab)).modify 1 (lay Rows.laid_internal_strconv_uint64pow10) }
theorem laid_met (os : Os) : laidMet Tryd.prog Rows.eventPicksRow.laid ((laidWorld os).forCall (fun _ _ => 0) ⟨#[], wArgs, []⟩).memory :=
  laidMet_of_run' 16 (by kernel_rfl) (by kernel_rfl)
theorem reads (os : Os) {H : Type} (enc : TypeId × Value → H) : ∃ places, DataW.whole enc Tryd.prog ((laidWorld os).forCall (fun _ _ => 0) ⟨#[], wArgs, []⟩).memory Tryd.f7.params.toList Rows.eventPicksSpec.vars false wArgs.toList 8 = some ([.agg [.nil], .nil, .lit (.int .i64 0)], [], places) :=
  ⟨[], by kernel_rfl⟩

set_option maxRecDepth 100000 in
theorem lifted (os : Os) (started : os.Started) (H : Type) (enc : TypeId × Value → H) (F : Stop.Interp) :
    ReturnsInHanded {} Tryd.checked os 7 .any ((OpenSpec.ofChange Rows.eventPicksSpec).preRow enc Tryd.prog Tryd.f7 Rows.eventPicksRow.domain false Rows.eventPicksRow.laid) (((OpenSpec.ofChange Rows.eventPicksSpec).at F).post enc Tryd.prog Tryd.f7 false true false false) := by
  obtain ⟨places, hx⟩ := reads os enc
  refine returnsInHanded_of_row (C := Tryd.checked) (s := OpenSpec.ofChange Rows.eventPicksSpec) own started (by kernel_rfl) Tryd.func7
    (witness_row_at (enc := enc) (C := Tryd.checked) false (laidWorld os) wArgs rfl (by kernel_rfl) (by kernel_rfl) (by kernel_rfl)
      (OpenSpec.preRow_of_cond 8 hx (by kernel_rfl) (fun k hk => by cases hk) (by kernel_rfl) (laid_met os))) ?_
  intro W base args ds gs before hval hW _ _ _ hL _ _
  have hL2 := hL.filter (fun x => x.1 == "internal/strconv.uint64pow10")
  have hLe : (Rows.eventPicksRow.laid.filter fun x => x.1 == "internal/strconv.uint64pow10") = [("internal/strconv.uint64pow10", Lib.tabData .u64 Lib.pow10Tab)] := by kernel_rfl
  rw [hLe] at hL2
  exact contract H enc W base args ds gs before hval hW (Lib.tabIs_of_head (g := 1) (t := 258) (n := 20) (by kernel_rfl) (by kernel_rfl) Tryd.underlying258 Tryd.underlying228 (by kernel_rfl) (by kernel_rfl) hL2)

set_option maxRecDepth 100000 in
theorem said : Rows.EventPicksSaid :=
  OpenClaim.holds_of_cond 7 Tryd.f7 rfl rfl rfl rfl rfl rfl rfl ⟨rfl, rfl, rfl, rfl, rfl⟩ rfl rfl rfl rfl rfl (by kernel_rfl) Tryd.func7 (by kernel_rfl)
    (of_decide_eq_true (by kernel_rfl)) (by unfold Func.isWrapper; first | (rw [if_pos (by decide +kernel)]; kernel_rfl) | (rw [if_neg (by decide +kernel)]; exact ⟨rfl, rfl⟩))
    (fun os started H enc _ F => by rw [OpenClaim.pre_eq_preRow]; exact lifted os started H enc F)

set_option maxRecDepth 100000 in
theorem plain (f : FuncId) (fn : Func) (hf : Tryd.pinned.checked.prog.funcNamed "escapement/escapementlaw29.EventPicks" = some f) (hfn : Tryd.pinned.checked.prog.funcs[f]? = some fn) :
    false = Tryd.pinned.checked.prog.looks [] ∧ ∀ (j : Nat) t, fn.params[j]? = some t → Tryd.pinned.checked.prog.wantsStandIn t = false := by
  obtain rfl : f = 7 := Option.some.inj ((show Tryd.prog.funcNamed "escapement/escapementlaw29.EventPicks" = some 7 by kernel_rfl).symm.trans hf) |>.symm
  obtain rfl : fn = Tryd.f7 := (Option.some.inj (Tryd.func7.symm.trans hfn)).symm
  refine ⟨by kernel_rfl, fun j t ht => ?_⟩
  rw [Tryd.params7] at ht
  have := Array.mem_of_getElem? ht
  simp at this
  rcases this with rfl | rfl | rfl
  · exact (show Tryd.prog.wantsStandIn 44 = false by kernel_rfl)
  · exact (show Tryd.prog.wantsStandIn 22 = false by kernel_rfl)
  · exact (show Tryd.prog.wantsStandIn 3 = false by kernel_rfl)

set_option maxRecDepth 100000 in
theorem card : Rows.EventPicksCardSaid :=
  Claim7.holds_tied_plain_at .later [] _ _ _ _ said (fun _ h => by cases h) (by kernel_rfl) (fun _ h => by cases h) eventPicks_row_tie rfl ⟨rfl, rfl⟩ (by kernel_rfl) rfl plain (by kernel_rfl)
end EventPicksDone
theorem eventPicks_holds : Rows.EventPicksCardSaid := EventPicksDone.card
#print axioms eventPicks_holds
end Go.Proofs.YtfcoigcenheefaaDoor
