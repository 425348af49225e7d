import Derived.RangeFuncNested
import Derived.RangeFuncBound
import Derived.RangeFuncCalls
import Derived.RangeFuncLeaves
import Derived.Shelf.Abstract
import Derived.Shelf.RegionOpen
import Derived.WalkKit
import Derived.OwnWalkIn
import Derived.TacticsInMore
import Derived.LoopNIn
import Derived.LoopIn
import Derived.Test.YtfcoigcenheefaaDoorBase
import Derived.Test.YtfcoigcenheefaaDoorChecked
set_option linter.unusedVariables false
set_option linter.unusedSimpArgs false
namespace Go.Proofs.YtfcoigcenheefaaDoor
open Go.RowKit Go.Shelf
attribute [local go_sem] Oper.semAt_some
set_option maxRecDepth 100000 in
set_option maxHeartbeats 4000000 in
theorem chunk1_in (F : Fence) (n : Nat) (h176 : F.fn 176) (hro : F.round = none) (hn : 1 ≤ n) (l Bs Bn b o len cap : Nat) (h1 : 1 ≤ len) (h2 : len ≤ 100) (hc : len ≤ cap) (hcm : cap ≤ maxLen) (J Jx : List Unit → World → Prop)
    (hY : ∀ pre x W, J pre W → pre.length < 1 → YieldAt F (n - 1) Tryd.prog l #[.slice (some ⟨b, o, none⟩) len len] W fun e W' =>
      (e = .returned (.bool true) ∧ J (pre ++ [x]) W' ∧ (W'.heap[Bs]? = W.heap[Bs]? ∧ W'.heap[Bn]? = W.heap[Bn]?)) ∨ (e = .returned (.bool false) ∧ Jx (pre ++ [x]) W'))
    (W : World) (hJd : ∀ pre W, J pre W → J pre W.drew) (hBs : W.cell? ⟨Bs, 0, none⟩ = some (.slice (some ⟨b, o, none⟩) len cap)) (hBn : W.cell? ⟨Bn, 0, none⟩ = some (.int .i64 200)) (h0 : J [] W) :
    CallsIn F n Tryd.prog 176 #[.func (.yield l) #[] #[], .pointer (some ⟨Bs, 0, none⟩), .pointer (some ⟨Bn, 0, none⟩)] W fun e W' => (∃ v, e = .returned v) ∧
      ((∃ ys, ys = [()] ∧ J ys W') ∨ (∃ pre, pre <+: [()] ∧ Jx pre W')) := by
  have mixed : Tryd.prog.follows .mixedOrders = true := by kernel_rfl
  have k1 : (1 : Int) ≤ (len : Int) := by omega
  have k2 : (len : Int) ≤ 100 := by omega
  have k0 : (0 : Int) < (len : Int) := by omega
  have k3 : min (200 : Int) (len : Int) = len := by omega
  have kc : (len : Int) ≤ (cap : Int) := by omega
  refine callsIn_of_wp Tryd.func176 rfl h176 ?_ hro
  simp only [Tryd.ntmps176, List.size_toArray, List.length_cons, List.length_nil, Nat.reduceAdd, Nat.reduceSub, Array.replicate_succ, Array.replicate_zero, List.push_toArray, List.append_toArray, List.nil_append, List.cons_append]
  gi_wp2
  gi_loopw [4, 5] (fun s4 _ wr => (s4 = .int .i64 0 ∧ wr = W) ∨ (s4 = .int .i64 200 ∧ J [()] wr ∧ wr.cell? ⟨Bs, 0, none⟩ = some (.slice (some ⟨b, o, none⟩) len cap) ∧ wr.cell? ⟨Bn, 0, none⟩ = some (.int .i64 200)))
    (fun s4 _ _ => 200 - (intOf s4).toNat)
  case atStart => exact .inl ⟨rfl, rfl⟩
  case round =>
    rcases hrel with ⟨rfl, rfl⟩ | ⟨rfl, hJ, cs, cn⟩
    · obtain ⟨fn, tmps, assign, body, hy, hR⟩ := hY [] () wr.drew (hJd _ _ h0) (by simp)
      gi_wp2
      gi_region_o
      all_goals gi_wp2
      all_goals
        refine hR.mono ?_
        rintro e W3 (⟨rfl, hJ3, hk1, hk2⟩ | ⟨rfl, hJx3⟩)
        · have cs3 : W3.cell? ⟨Bs, 0, none⟩ = some (.slice (some ⟨b, o, none⟩) len cap) := (World.cell?_of_block (a := ⟨Bs, 0, none⟩) (w := wr.drew) (w' := W3) hk1).trans hBs
          have cn3 : W3.cell? ⟨Bn, 0, none⟩ = some (.int .i64 200) := (World.cell?_of_block (a := ⟨Bn, 0, none⟩) (w := wr.drew) (w' := W3) hk2).trans hBn
          clear hY hJd hk1 hk2 hR hy
          gi_wp2
          go_roundw
          case rel => exact .inr ⟨rfl, hJ3, cs3, cn3⟩
          case measure => simp [intOf]
        · clear hY hJd hR hy
          gi_wp2
          refine bodyPost_ret (results_none rfl _ _ _) rfl ?_
          exact ⟨⟨_, rfl⟩, .inr ⟨[()], List.prefix_refl _, hJx3⟩⟩
    · have k4 : ¬ ((200 : Int) < (len : Int)) := by omega
      clear hY hJd
      gi_wp2
      go_end0
      first | exact ⟨⟨_, rfl⟩, .inl ⟨_, rfl, hJ⟩⟩ | exact ⟨⟨_, rfl⟩, .inl hJ⟩
end Go.Proofs.YtfcoigcenheefaaDoor
