import Derived.Test.YtfcoigcenheefaaDoorBase
set_option linter.unusedVariables false
set_option linter.unusedSimpArgs false
namespace Go.Proofs.YtfcoigcenheefaaDoor
open Go.RowKit

/-- What lies in an operation's slot. -/
def slotOf (a : Act) (d : Option Tmp) : Value := d.elim undef fun s => a.tmps.getD s undef
/-- No operation of the list writes slot s. -/
def notDst (l : List Oper) (s : Nat) : Bool := l.all fun o => o.dst != some s
/-- The list is as the rule asks: edges lead back, no slot is written twice, every slot lies in the frame. -/
def regionOk (l : List Oper) (n : Nat) : Bool :=
  (l.zipIdx.all fun x => x.1.after.all fun e => decide (e.on < x.2)) && decide ((l.filterMap (·.dst)).Nodup) && (l.all fun o => o.dst.all fun d => decide (d < n))

/-- ONE OPERATION: from whatever frame and world that may stand there it comes to a value of which R holds. -/
def StepAt (P : Program) (l : List Oper) (Q : Exit → Act → World → Prop) (a : Act) (w0 : World) (T : World → World → Prop) (R : Nat → Value → World → Prop) (k : Nat) (o : Oper) : Prop :=
  ∀ (a' : Act) (w' : World), a'.defers = a.defers → (∀ s, notDst l s = true → a'.tmps.getD s undef = a.tmps.getD s undef) → T w0 w' →
    (∀ e ∈ o.after.toList, Region.binds .any e = true → ∀ oj, l[e.on]? = some oj → R e.on (slotOf a' oj.dst) w') →
    ∀ K : Act → World → Prop, (∀ v w'', T w0 w'' → (∀ j u, R j u w' → R j u w'') → R k (o.dst.elim undef fun _ => v) w'' → K (a'.put o.dst v) w'') →
      if Region.wanted o (yielded l.toArray a'.tmps) = true then o.wp P a' w' K Q else K (a'.put o.dst undef) w'

structure Jnv (l : List Oper) (a : Act) (w0 : World) (T : World → World → Prop) (R : Nat → Value → World → Prop) (listed : Array Bool) (a' : Act) (w' : World) : Prop where
  size : listed.size = l.length
  dfr : a'.defers = a.defers
  tsz : a'.tmps.size = a.tmps.size
  oth : ∀ s, notDst l s = true → a'.tmps.getD s undef = a.tmps.getD s undef
  reach : T w0 w'
  don : ∀ i o, l[i]? = some o → listed.getD i false = true → R i (slotOf a' o.dst) w'

theorem put_getD (a : Act) (d s : Nat) (v : Value) (hd : d < a.tmps.size) : (a.put (some d) v).tmps.getD s undef = if s = d then v else a.tmps.getD s undef := by
  simp only [Act.put, Array.getD_eq_getD_getElem?, Array.getElem?_setIfInBounds]
  by_cases h : s = d
  · subst h; simp [hd]
  · have : ¬ d = s := fun e => h e.symm
    simp [h, this]

theorem filterMap_inj {l : List Oper} (hn : (l.filterMap (·.dst)).Nodup) : ∀ {i j : Nat} {oi oj : Oper} {d : Nat}, l[i]? = some oi → l[j]? = some oj → oi.dst = some d → oj.dst = some d → i = j := by
  induction l with
  | nil => intro i j oi oj d h1; simp at h1
  | cons o l ih =>
    intro i j oi oj d h1 h2 h3 h4
    have hmem : ∀ (k : Nat) (ok : Oper), l[k]? = some ok → ok.dst = some d → d ∈ l.filterMap (·.dst) := fun k ok hk hd =>
      List.mem_filterMap.2 ⟨ok, List.mem_of_getElem? hk, hd⟩
    have hn2 : (l.filterMap (·.dst)).Nodup := by
      rw [List.filterMap_cons] at hn
      split at hn
      · exact hn
      · exact (List.nodup_cons.1 hn).2
    cases i with
    | zero =>
      cases j with
      | zero => rfl
      | succ j =>
        simp at h1 h2
        subst h1
        rw [List.filterMap_cons, h3] at hn
        exact absurd (hmem j oj h2 h4) (List.nodup_cons.1 hn).1
    | succ i =>
      cases j with
      | zero =>
        simp at h1 h2
        subst h2
        rw [List.filterMap_cons, h4] at hn
        exact absurd (hmem i oi h1 h3) (List.nodup_cons.1 hn).1
      | succ j =>
        simp at h1 h2
        rw [ih hn2 h1 h2 h3 h4]

section
variable {P : Program} {l : List Oper} {Q : Exit → Act → World → Prop} {a : Act} {w0 : World} {T : World → World → Prop} {R : Nat → Value → World → Prop}

theorem all_listed {listed : Array Bool} (hb : ∀ (i : Nat) (o : Oper), l[i]? = some o → ∀ e ∈ o.after, e.on < i) (hs : listed.size = l.length) (hr : Region.ready .any l.toArray listed = []) : ∀ i, i < l.length → listed.getD i false = true := by
  intro i
  induction i using Nat.strongRecOn with
  | _ i ih =>
    intro hi
    cases h : listed.getD i false with
    | true => rfl
    | false =>
      have : i ∈ Region.ready .any l.toArray listed := by
        refine mem_ready.2 ⟨?_, l[i], by simp [hi], fun e he _ => ?_⟩
        · simp [hs, hi] at h ⊢; exact h
        · have h1 := hb i l[i] (by simp [hi]) e he
          exact ih e.on h1 (by omega)
      rw [hr] at this; cases this

theorem wpAny_inv (hbk : ∀ (i : Nat) (o : Oper), l[i]? = some o → ∀ e ∈ o.after, e.on < i) (hnd : (l.filterMap (·.dst)).Nodup) (hin : ∀ o ∈ l, ∀ d, o.dst = some d → d < a.tmps.size)
    (step : ∀ k o, l[k]? = some o → StepAt P l Q a w0 T R k o)
    (fin : ∀ a' w', a'.defers = a.defers → a'.tmps.size = a.tmps.size → (∀ s, notDst l s = true → a'.tmps.getD s undef = a.tmps.getD s undef) → T w0 w' → (∀ i o, l[i]? = some o → R i (slotOf a' o.dst) w') → Q .normal a' w') :
    ∀ (fuel : Nat) (listed : Array Bool) (a' : Act) (w' : World), Jnv l a w0 T R listed a' w' → listed.toList.countP (· == false) ≤ fuel → wpAny P .any l.toArray Q fuel listed a' w' := by
  have done : ∀ (listed : Array Bool) (a' : Act) (w' : World), Jnv l a w0 T R listed a' w' → (∀ i, i < l.length → listed.getD i false = true) → Q .normal a' w' := fun listed a' w' J h =>
    fin a' w' J.dfr J.tsz J.oth J.reach fun i o ho => J.don i o ho (h i (List.getElem?_eq_some_iff.1 ho).1)
  intro fuel
  induction fuel with
  | zero =>
    intro listed a' w' J hc
    have hall : ∀ i, i < l.length → listed.getD i false = true := fun i hi => by
      have h0 : listed.toList.countP (· == false) = 0 := by omega
      rw [List.countP_eq_zero] at h0
      have hi' : i < listed.size := by rw [J.size]; exact hi
      have := h0 listed[i] (by simp)
      simp [hi'] at this ⊢; exact this
    refine ⟨?_, done listed a' w' J hall⟩
    cases hr : Region.ready .any l.toArray listed with
    | nil => rfl
    | cons i r =>
      have hm : i ∈ Region.ready .any l.toArray listed := by rw [hr]; exact List.mem_cons_self
      obtain ⟨h1, o, h2, _⟩ := mem_ready.1 hm
      have hi : i < l.length := by simpa using (Array.getElem?_eq_some_iff.1 h2).1
      have := hall i hi
      have hi' : i < listed.size := by rw [J.size]; exact hi
      simp [hi'] at h1 this
      rw [h1] at this; cases this
  | succ fuel ih =>
    intro listed a' w' J hc
    refine ⟨fun hr => done listed a' w' J (all_listed hbk J.size hr), fun i hi => ?_⟩
    obtain ⟨h1, o, h2, h3⟩ := mem_ready.1 hi
    have h2' : l[i]? = some o := by simpa using h2
    have hil : i < l.length := (List.getElem?_eq_some_iff.1 h2').1
    have hi' : i < listed.size := by rw [J.size]; exact hil
    have hf : listed[i] = false := by simpa [hi'] using h1
    have hcnt : (listed.setIfInBounds i true).toList.countP (· == false) ≤ fuel := by
      rw [Array.toList_setIfInBounds, List.countP_set (h := by simpa using hi')]
      simp only [Array.getElem_toList, hf]
      simp at *
      omega
    have st := step i o h2' a' w' J.dfr J.oth J.reach (fun e he hb oj hj => J.don e.on oj hj (h3 e (by simpa using he) hb))
      (wpAny P .any l.toArray Q fuel (listed.setIfInBounds i true)) (fun v w'' hT hst hR => ih _ _ _ ?_ hcnt)
    · unfold wpOp
      rw [show l.toArray[i]? = some o from h2]
      by_cases hw : Region.wanted o (yielded l.toArray a'.tmps) = true
      · simp only [hw, if_true] at st ⊢; exact .inl st
      · simp only [hw] at st ⊢; exact st
    · cases hd : o.dst with
      | none =>
        rw [hd] at hR
        refine ⟨by simpa using J.size, J.dfr, J.tsz, J.oth, hT, fun j oj hj hl => ?_⟩
        by_cases e : j = i
        · subst e
          have : oj = o := Option.some.inj (hj.symm.trans h2')
          subst this
          simpa [slotOf, hd, Act.put] using hR
        · rw [getD_set_ne false (fun q => e q.symm)] at hl
          exact hst _ _ (J.don j oj hj hl)
      | some d =>
        rw [hd] at hR
        have hdl : d < a'.tmps.size := by rw [J.tsz]; exact hin o (List.mem_of_getElem? h2') d hd
        refine ⟨by simpa using J.size, J.dfr, by simpa [Act.put] using J.tsz, fun s hs => ?_, hT, fun j oj hj hl => ?_⟩
        · rw [put_getD a' d s v hdl, if_neg]
          · exact J.oth s hs
          · rintro rfl
            have := List.all_eq_true.1 hs o (List.mem_of_getElem? h2')
            simp [hd] at this
        · by_cases e : j = i
          · subst e
            have : oj = o := Option.some.inj (hj.symm.trans h2')
            subst this
            simp only [slotOf, hd, Option.elim] at hR ⊢
            rw [put_getD a' d d v hdl, if_pos rfl]; exact hR
          · rw [getD_set_ne false (fun q => e q.symm)] at hl
            have h4 := hst _ _ (J.don j oj hj hl)
            cases hdj : oj.dst with
            | none => simpa [slotOf, hdj] using h4
            | some d' =>
              simp only [slotOf, hdj, Option.elim] at h4 ⊢
              rw [put_getD a' d d' v hdl, if_neg]
              · exact h4
              · rintro rfl
                exact e (filterMap_inj hnd hj h2' hdj hd)

/-- The obligations of a list, one behind the other. -/
def Steps (P : Program) (l : List Oper) (Q : Exit → Act → World → Prop) (a : Act) (w0 : World) (T : World → World → Prop) (R : Nat → Value → World → Prop) : List Oper → Nat → Prop
  | [], _ => True
  | o :: r, k => StepAt P l Q a w0 T R k o ∧ Steps P l Q a w0 T R r (k + 1)
theorem steps_at : ∀ (r : List Oper) (k : Nat), Steps P l Q a w0 T R r k → ∀ i o, r[i]? = some o → StepAt P l Q a w0 T R (k + i) o
  | [], _, _, i, o, h => by simp at h
  | o' :: r, k, h, 0, o, ho => by simp at ho; subst ho; exact h.1
  | o' :: r, k, h, i + 1, o, ho => by
    have := steps_at r (k + 1) h.2 i o (by simpa using ho)
    rw [show k + (i + 1) = k + 1 + i by omega]; exact this
/-- A REGION THAT DRAWS ITS ORDER, walked once: R tells of each operation what its value is, T how the worlds go on. -/
theorem wp_region_inv {id : Nat} {w : World} (hm : P.follows .mixedOrders = true) (n : Nat) (hn : a.tmps.size = n) (hok : regionOk l n = true)
    (T : World → World → Prop) (R : Nat → Value → World → Prop) (hT : T w.drew w.drew) (hs : Steps P l Q a w.drew T R l 0)
    (fin : ∀ a' w', a'.defers = a.defers → a'.tmps.size = n → (∀ s, notDst l s = true → a'.tmps.getD s undef = a.tmps.getD s undef) → T w.drew w' → (∀ i o, l[i]? = some o → R i (slotOf a' o.dst) w') → Q .normal a' w') :
    (Code.region id l.toArray true).wp P Q a w := by
  simp only [regionOk, Bool.and_eq_true, decide_eq_true_eq] at hok
  obtain ⟨⟨h1, h2⟩, h3⟩ := hok
  refine wp_region_any hm ?_
  refine wpAny_inv (w0 := w.drew) (T := T) (R := R) (fun i o hi e he => ?_) h2 (fun o ho d hd => ?_) (fun k o hk => by have := steps_at l 0 hs k o hk; rw [Nat.zero_add] at this; exact this)
    (fun a' w' q1 q2 q3 q4 q5 => fin a' w' q1 (q2.trans hn) q3 q4 q5) _ _ _ _ ⟨by simp, rfl, rfl, fun _ _ => rfl, hT, fun i o hi hl => ?_⟩ ?_
  · have := List.all_eq_true.1 h1 (o, i) (List.mem_zipIdx_iff_getElem?.2 hi)
    have h4 := Array.all_eq_true'.1 this e he
    simpa using h4
  · have := List.all_eq_true.1 h3 o ho
    rw [hd] at this
    rw [hn]; simpa using this
  · rw [getD_replicate_false] at hl; cases hl
  · simp [List.countP_replicate]
end
/-- A frame by its slots. -/
theorem tmps_lit (t : Array Value) (n : Nat) (h : t.size = n) : t = ((List.range n).map fun s => t.getD s undef).toArray := by
  subst h
  apply Array.ext
  · simp
  · intro i h1 h2
    simp [Array.getD_eq_getD_getElem?, h1]
end Go.Proofs.YtfcoigcenheefaaDoor
