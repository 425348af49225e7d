import Derived.Test.YtfcoigcenheefaaDoorEvLine
set_option linter.unusedVariables false
set_option linter.unusedSimpArgs false
namespace Go.Proofs.YtfcoigcenheefaaDoor
open Go.RowKit
theorem itoa_len (n : Int) (h1 : -9223372036854775808 ≤ n) (h2 : n ≤ 9223372036854775807) : (Lib.itoa n).length ≤ 30 := by
  unfold Lib.itoa
  split
  · rw [List.length_cons, Lib.decDigits_length]
    have := Lib.nDigits_le20 n.natAbs (by omega)
    omega
  · rw [Lib.decDigits_length]
    have := Lib.nDigits_le20 n.toNat (by omega)
    omega
theorem right_bd {e : Ev} (h : rightB e = true) : (e.kind = 2 ∨ e.kind = 1 ∧ e.n = 0) ∧ 1 ≤ e.g ∧ e.g < 65 ∧ 0 ≤ e.fn ∧ e.fn < 16 ∧ 0 ≤ e.pc ∧ e.pc < 64 := by
  simpa [rightB, inB, and_assoc] using h
/-- The number of an event is one of 64 bits. -/
def NumOk (e : Ev) : Prop := -9223372036854775808 ≤ e.n ∧ e.n ≤ 9223372036854775807
theorem lineE_len {e : Ev} (h : rightB e = true) (hn : NumOk e) : (lineE e).length ≤ 200 := by
  obtain ⟨_, h1, h2, h3, h4, h5, h6⟩ := right_bd h
  obtain ⟨n1, n2⟩ := hn
  have a := itoa_len e.g (by omega) (by omega)
  have b := itoa_len e.fn (by omega) (by omega)
  have c := itoa_len e.pc (by omega) (by omega)
  have d := itoa_len e.n n1 n2
  unfold lineE
  split <;> simp <;> omega
/-- The text of events, a line for each. -/
def textE : List Ev → List UInt8
  | [] => []
  | e :: l => lineE e ++ 10 :: textE l
theorem textE_app (l m : List Ev) : textE (l ++ m) = textE l ++ textE m := by
  induction l with
  | nil => rfl
  | cons e l ih => simp [textE, ih]
theorem textE_len {l : List Ev} (h : l.all rightB = true) (hn : ∀ e ∈ l, NumOk e) : (textE l).length ≤ 201 * l.length := by
  induction l with
  | nil => simp [textE]
  | cons e l ih =>
    simp only [List.all_cons, Bool.and_eq_true] at h
    have := ih h.2 (fun x hx => hn x (List.mem_cons_of_mem _ hx))
    have := lineE_len h.1 (hn e List.mem_cons_self)
    simp [textE]
    omega
theorem take_succ' {l : List Ev} {k : Nat} (h : k < l.length) : l.take (k + 1) = l.take k ++ [l.getD k default] := by
  rw [List.take_add_one, List.getElem?_eq_getElem h]
  simp [List.getD, h]
theorem textE_succ {l : List Ev} {k : Nat} (h : k < l.length) : textE (l.take (k + 1)) = textE (l.take k) ++ (lineE (l.getD k default) ++ [10]) := by
  rw [take_succ' h, textE_app]; simp [textE]
theorem all_succ {l : List Ev} {k : Nat} (h : k < l.length) : (l.take (k + 1)).all rightB = ((l.take k).all rightB && rightB (l.getD k default)) := by
  rw [take_succ' h, List.all_append]; simp
theorem all_false {l : List Ev} {k : Nat} (hk : k < l.length) (h : rightB (l.getD k default) = false) : l.all rightB = false := by
  rw [List.all_eq_false]
  exact ⟨l.getD k default, by simp [List.getD, hk], by rw [h]; simp⟩
/-- What Line gives. -/
def lineT (e : Ev) : List UInt8 := if rightB e then lineE e else []
def faultT (b : Bool) : Int := if b then 0 else 1
/-- What Print gives. -/
def printT (l : List Ev) : List UInt8 := if l.all rightB then textE l else []
theorem itoa_nat (n : Nat) : Lib.itoa (n : Int) = Lib.decDigits n := by
  rw [Lib.itoa, if_neg (by omega)]; simp
end Go.Proofs.YtfcoigcenheefaaDoor
