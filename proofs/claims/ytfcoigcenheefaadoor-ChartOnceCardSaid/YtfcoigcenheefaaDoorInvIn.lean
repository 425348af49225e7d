import Derived.Test.YtfcoigcenheefaaDoorInv
import Derived.OrdersIn
import Derived.TacticsIn
import Derived.RangeFuncNested
set_option linter.unusedVariables false
set_option linter.unusedSimpArgs false
namespace Go.Proofs.YtfcoigcenheefaaDoor
open Go.RowKit
/-- An operation that is no defer statement, walked plainly, is walked in a round of the wide fence too. -/
theorem wpIn_of_wp {P : Program} {o : Oper} {a : Act} {w : World} {K : Act → World → Prop} {Q : Exit → Act → World → Prop} {lp m : Nat} (hd : ∀ c, o.op ≠ .defer c) (h : o.wp P a w K Q) : o.wpIn (Fence.wide.inRound lp) m P a w K Q := by
  refine ⟨fun _ _ => trivial, ?_⟩
  rw [Fence.inRound_round, Oper.semAt_some lp _ _ hd]
  unfold Oper.wp at h
  generalize (execOp a.eval o).run P w = r at h ⊢
  cases r with
  | ok x w' =>
    cases x with
    | value v => exact h
    | skip => exact h
    | «defer» d => exact h
    | enter f args => exact ⟨fun hh => (by cases hh), callsIn_wide.2 h⟩
    | row r args =>
      refine ⟨fun hh => (by cases hh), fun c cs _ => ?_⟩
      obtain ⟨v, w', hr, hs⟩ := h c cs
      exact ⟨v, w', hr, stepsIn_wide.2 hs⟩
    | _ => exact False.elim h
  | halt x w' =>
    cases x with
    | panic v => exact h
    | _ => exact False.elim h
section
variable {P : Program} {l : List Oper} {Q : Exit → Act → World → Prop} {a : Act} {w0 : World} {T : World → World → Prop} {R : Nat → Value → World → Prop}
theorem wpAnyIn_inv {lp m : Nat} (hdf : ∀ o ∈ l, ∀ c, o.op ≠ .defer c) (hbk : ∀ (i : Nat) (o : Oper), l[i]? = some o → ∀ e ∈ o.after, e.on < i) (hnd : (l.filterMap (·.dst)).Nodup) (hin : ∀ o ∈ l, ∀ d, o.dst = some d → d < a.tmps.size)
    (step : ∀ k o, l[k]? = some o → StepAt P l Q a w0 T R k o)
    (fin : ∀ a' w', a'.defers = a.defers → a'.tmps.size = a.tmps.size → (∀ s, notDst l s = true → a'.tmps.getD s undef = a.tmps.getD s undef) → T w0 w' → (∀ i o, l[i]? = some o → R i (slotOf a' o.dst) w') → Q .normal a' w') :
    ∀ (fuel : Nat) (listed : Array Bool) (a' : Act) (w' : World), Jnv l a w0 T R listed a' w' → listed.toList.countP (· == false) ≤ fuel → wpAnyIn (Fence.wide.inRound lp) m P .any l.toArray Q fuel listed a' w' := by
  have done : ∀ (listed : Array Bool) (a' : Act) (w' : World), Jnv l a w0 T R listed a' w' → (∀ i, i < l.length → listed.getD i false = true) → Q .normal a' w' := fun listed a' w' J h =>
    fin a' w' J.dfr J.tsz J.oth J.reach fun i o ho => J.don i o ho (h i (List.getElem?_eq_some_iff.1 ho).1)
  intro fuel
  induction fuel with
  | zero =>
    intro listed a' w' J hc
    have hall : ∀ i, i < l.length → listed.getD i false = true := fun i hi => by
      have h0 : listed.toList.countP (· == false) = 0 := by omega
      rw [List.countP_eq_zero] at h0
      have hi' : i < listed.size := by rw [J.size]; exact hi
      have := h0 listed[i] (by simp)
      simp [hi'] at this ⊢; exact this
    refine ⟨?_, done listed a' w' J hall⟩
    cases hr : Region.ready .any l.toArray listed with
    | nil => rfl
    | cons i r =>
      have hm : i ∈ Region.ready .any l.toArray listed := by rw [hr]; exact List.mem_cons_self
      obtain ⟨h1, o, h2, _⟩ := mem_ready.1 hm
      have hi : i < l.length := by simpa using (Array.getElem?_eq_some_iff.1 h2).1
      have := hall i hi
      have hi' : i < listed.size := by rw [J.size]; exact hi
      simp [hi'] at h1 this
      rw [h1] at this; cases this
  | succ fuel ih =>
    intro listed a' w' J hc
    refine ⟨fun hr => done listed a' w' J (all_listed hbk J.size hr), fun i hi => ?_⟩
    obtain ⟨h1, o, h2, h3⟩ := mem_ready.1 hi
    have h2' : l[i]? = some o := by simpa using h2
    have hil : i < l.length := (List.getElem?_eq_some_iff.1 h2').1
    have hi' : i < listed.size := by rw [J.size]; exact hil
    have hf : listed[i] = false := by simpa [hi'] using h1
    have hcnt : (listed.setIfInBounds i true).toList.countP (· == false) ≤ fuel := by
      rw [Array.toList_setIfInBounds, List.countP_set (h := by simpa using hi')]
      simp only [Array.getElem_toList, hf]
      simp at *
      omega
    have st := step i o h2' a' w' J.dfr J.oth J.reach (fun e he hb oj hj => J.don e.on oj hj (h3 e (by simpa using he) hb))
      (wpAnyIn (Fence.wide.inRound lp) m P .any l.toArray Q fuel (listed.setIfInBounds i true)) (fun v w'' hT hst hR => ih _ _ _ ?_ hcnt)
    · unfold wpOpIn
      rw [show l.toArray[i]? = some o from h2]
      by_cases hw : Region.wanted o (yielded l.toArray a'.tmps) = true
      · simp only [hw, if_true] at st ⊢; exact wpIn_of_wp (hdf o (List.mem_of_getElem? h2')) st
      · simp only [hw] at st ⊢; exact ⟨fun _ _ => trivial, st⟩
    · cases hd : o.dst with
      | none =>
        rw [hd] at hR
        refine ⟨by simpa using J.size, J.dfr, J.tsz, J.oth, hT, fun j oj hj hl => ?_⟩
        by_cases e : j = i
        · subst e
          have : oj = o := Option.some.inj (hj.symm.trans h2')
          subst this
          simpa [slotOf, hd, Act.put] using hR
        · rw [getD_set_ne false (fun q => e q.symm)] at hl
          exact hst _ _ (J.don j oj hj hl)
      | some d =>
        rw [hd] at hR
        have hdl : d < a'.tmps.size := by rw [J.tsz]; exact hin o (List.mem_of_getElem? h2') d hd
        refine ⟨by simpa using J.size, J.dfr, by simpa [Act.put] using J.tsz, fun s hs => ?_, hT, fun j oj hj hl => ?_⟩
        · rw [put_getD a' d s v hdl, if_neg]
          · exact J.oth s hs
          · rintro rfl
            have := List.all_eq_true.1 hs o (List.mem_of_getElem? h2')
            simp [hd] at this
        · by_cases e : j = i
          · subst e
            have : oj = o := Option.some.inj (hj.symm.trans h2')
            subst this
            simp only [slotOf, hd, Option.elim] at hR ⊢
            rw [put_getD a' d d v hdl, if_pos rfl]; exact hR
          · rw [getD_set_ne false (fun q => e q.symm)] at hl
            have h4 := hst _ _ (J.don j oj hj hl)
            cases hdj : oj.dst with
            | none => simpa [slotOf, hdj] using h4
            | some d' =>
              simp only [slotOf, hdj, Option.elim] at h4 ⊢
              rw [put_getD a' d d' v hdl, if_neg]
              · exact h4
              · rintro rfl
                exact e (filterMap_inj hnd hj h2' hdj hd)

/-- A REGION THAT DRAWS ITS ORDER, walked once: R tells of each operation what its value is, T how the worlds go on. -/
theorem wpIn_region_inv {lp m : Nat} {id : Nat} {w : World} (hm : P.follows .mixedOrders = true) (n : Nat) (hn : a.tmps.size = n) (hok : regionOk l n = true) (hdf : (l.all fun o => match o.op with | .defer _ => false | _ => true) = true)
    (T : World → World → Prop) (R : Nat → Value → World → Prop) (hT : T w.drew w.drew) (hs : Steps P l Q a w.drew T R l 0)
    (fin : ∀ a' w', a'.defers = a.defers → a'.tmps.size = n → (∀ s, notDst l s = true → a'.tmps.getD s undef = a.tmps.getD s undef) → T w.drew w' → (∀ i o, l[i]? = some o → R i (slotOf a' o.dst) w') → Q .normal a' w') :
    (Code.region id l.toArray true).wpIn (Fence.wide.inRound lp) m P Q a w := by
  simp only [regionOk, Bool.and_eq_true, decide_eq_true_eq] at hok
  obtain ⟨⟨h1, h2⟩, h3⟩ := hok
  refine wpIn_region_any hm ?_
  refine wpAnyIn_inv (fun o ho c e => by have := List.all_eq_true.1 hdf o ho; rw [e] at this; cases this) (w0 := w.drew) (T := T) (R := R) (fun i o hi e he => ?_) h2 (fun o ho d hd => ?_) (fun k o hk => by have := steps_at l 0 hs k o hk; rw [Nat.zero_add] at this; exact this)
    (fun a' w' q1 q2 q3 q4 q5 => fin a' w' q1 (q2.trans hn) q3 q4 q5) _ _ _ _ ⟨by simp, rfl, rfl, fun _ _ => rfl, hT, fun i o hi hl => ?_⟩ ?_
  · have := List.all_eq_true.1 h1 (o, i) (List.mem_zipIdx_iff_getElem?.2 hi)
    have h4 := Array.all_eq_true'.1 this e he
    simpa using h4
  · have := List.all_eq_true.1 h3 o ho
    rw [hd] at this
    rw [hn]; simpa using this
  · rw [getD_replicate_false] at hl; cases hl
  · simp [List.countP_replicate]
end
end Go.Proofs.YtfcoigcenheefaaDoor
