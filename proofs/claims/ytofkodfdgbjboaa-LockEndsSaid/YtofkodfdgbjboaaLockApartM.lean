/- What a deed with locks makes of one Ref's word, and that it leaves the others'. -/
import Derived.Test.YtofkodfdgbjboaaLockDeed
namespace Go.Proofs.Ytofkodfdgbjboaa
open Go.ChangeShapes Go.WideShapes Go.ChangeAt Go.RowKit Go.Burg
open Go.Burg.Lk

section
variable {α β : Type} [DecidableEq α]
theorem lkp_nil (s : α) : lkp ([] : List (α × β)) s = none := rfl
theorem lkp_cons (x : α × β) (l : List (α × β)) (s : α) : lkp (x :: l) s = if s = x.1 then some x.2 else lkp l s := by
  obtain ⟨a, b⟩ := x
  unfold lkp
  rw [List.lookup_cons]
  by_cases h : s = a
  · simp [h]
  · have : (s == a) = false := by simpa using h
    rw [this]
    simp [h]
theorem lkp_app (l : List (α × β)) (k : α) (v : β) (s : α) : lkp (l ++ [(k, v)]) s = match lkp l s with | some x => some x | none => if s = k then some v else none := by
  induction l with
  | nil => rw [List.nil_append, lkp_cons, lkp_nil]
  | cons x l ih =>
    rw [List.cons_append, lkp_cons, lkp_cons, ih]
    split <;> rfl
theorem lkp_del (l : List (α × β)) (k s : α) : lkp (delKV l k) s = if s = k then none else lkp l s := by
  induction l with
  | nil => simp [delKV, lkp]
  | cons x l ih =>
    by_cases h : x.1 = k
    · have e : delKV (x :: l) k = delKV l k := by simp [delKV, h]
      rw [e, ih, lkp_cons, h]
      by_cases hs : s = k <;> simp [hs]
    · have e : delKV (x :: l) k = x :: delKV l k := by simp [delKV, h]
      rw [e, lkp_cons, lkp_cons, ih]
      by_cases hs : s = k
      · subst hs
        have : ¬ s = x.1 := fun e => h e.symm
        simp [this]
      · simp [hs]
theorem lkp_map (l : List (α × β)) (k : α) (v : β) (s : α) : lkp (l.map (fun x => if x.1 = k then (k, v) else x)) s = if s = k then (lkp l s).map (fun _ => v) else lkp l s := by
  induction l with
  | nil => simp [lkp]
  | cons x l ih =>
    rw [List.map_cons, lkp_cons, lkp_cons, ih]
    by_cases h : x.1 = k
    · simp only [h, if_true]
      by_cases hs : s = k <;> simp [hs]
    · simp only [h, if_false]
      by_cases hs : s = k
      · subst hs
        have : ¬ s = x.1 := fun e => h e.symm
        simp [this]
      · simp [hs]
theorem lkp_set (l : List (α × β)) (k : α) (v : β) (s : α) : lkp (setKV l k v) s = if s = k then some v else lkp l s := by
  unfold setKV
  cases hk : lkp l k with
  | none =>
    have : (l.lookup k).isSome = false := by unfold lkp at hk; rw [hk]; rfl
    rw [this]
    simp only [Bool.false_eq_true, if_false]
    rw [lkp_app]
    by_cases hs : s = k
    · subst hs; simp [hk]
    · cases lkp l s <;> simp [hs]
  | some y =>
    have : (l.lookup k).isSome = true := by unfold lkp at hk; rw [hk]; rfl
    rw [this]
    simp only [if_true]
    rw [lkp_map]
    by_cases hs : s = k
    · subst hs; rw [hk]; simp
    · simp [hs]
end

/-- A deed, by its number: whether it succeeded, the words, how many were locked. -/
def deedL (p : Int) (l : List (RefK × Wd)) (tk : Int) (r : RefK) (u y : Wd) : Bool × List (RefK × Wd) × Int :=
  if p = 0 then (decide ((addL l r).1 = 0), (addL l r).2, tk)
  else if p = 1 then (decide ((goneL l r).1 = 0), (goneL l r).2, tk)
  else if p = 2 then ((lockL l r u).1, (lockL l r u).2, if (lockL l r u).1 then tk + 1 else tk)
  else if p = 3 then ((lockL l r y).1, (lockL l r y).2, if (lockL l r y).1 then tk + 1 else tk)
  else if p = 4 then (decide ((turnL l r Wd.drop).1 = 0), (turnL l r Wd.drop).2, tk)
  else if p = 5 then (decide ((turnL l r Wd.done).1 = 0), (turnL l r Wd.done).2, tk)
  else (decide ((turnL l r Wd.kill).1 = 0), (turnL l r Wd.kill).2, tk)

/-- What a turner makes of what stands at a Ref. -/
def turnV (v : Option Wd) (g : Wd → Wd × Bool) : Int × Option Wd := match v with
  | none => (5, none)
  | some x => if (g x).2 then (0, some (g x).1) else (15, some x)
theorem turn_view (l : List (RefK × Wd)) (r s : RefK) (g : Wd → Wd × Bool) : (turnL l r g).1 = (turnV (lkp l r) g).1 ∧ lkp (turnL l r g).2 s = if s = r then (turnV (lkp l r) g).2 else lkp l s := by
  unfold turnL turnV
  cases h : lkp l r with
  | none =>
    refine ⟨rfl, ?_⟩
    by_cases hs : s = r
    · subst hs; simp [h]
    · simp [hs]
  | some x =>
    simp only []
    split
    · exact ⟨rfl, lkp_set _ _ _ _⟩
    · refine ⟨rfl, ?_⟩
      by_cases hs : s = r
      · subst hs; simp [h]
      · simp [hs]

/-- What a deed makes of what stands at its Ref: whether it succeeded, what stands there, how many more were locked. -/
def deedV (p : Int) (r : RefK) (v : Option Wd) (u y : Wd) : Bool × Option Wd × Int :=
  if p = 0 then (if okRef r then (if v.isSome then (false, v, 0) else (true, some w0, 0)) else (false, v, 0))
  else if p = 1 then (v.isSome, none, 0)
  else if p = 2 then (let q := turnV v (Wd.only u); (decide (q.1 = 0), q.2, if q.1 = 0 then 1 else 0))
  else if p = 3 then (let q := turnV v (Wd.only y); (decide (q.1 = 0), q.2, if q.1 = 0 then 1 else 0))
  else if p = 4 then (decide ((turnV v Wd.drop).1 = 0), (turnV v Wd.drop).2, 0)
  else if p = 5 then (decide ((turnV v Wd.done).1 = 0), (turnV v Wd.done).2, 0)
  else (decide ((turnV v Wd.kill).1 = 0), (turnV v Wd.kill).2, 0)

theorem deed_view (p : Int) (l : List (RefK × Wd)) (tk : Int) (r s : RefK) (u y : Wd) :
    (deedL p l tk r u y).1 = (deedV p r (lkp l r) u y).1 ∧ (lkp (deedL p l tk r u y).2.1 s = if s = r then (deedV p r (lkp l r) u y).2.1 else lkp l s) ∧ (deedL p l tk r u y).2.2 = tk + (deedV p r (lkp l r) u y).2.2 := by
  have keep : ∀ v : Option Wd, lkp l r = v → lkp l s = if s = r then v else lkp l s := fun v h => by
    by_cases hs : s = r
    · subst hs; simp [h]
    · simp [hs]
  have lk : ∀ x : Wd, (lockL l r x).1 = decide ((turnV (lkp l r) (Wd.only x)).1 = 0) ∧ (lkp (lockL l r x).2 s = if s = r then (turnV (lkp l r) (Wd.only x)).2 else lkp l s) := fun x => by
    obtain ⟨h1, h2⟩ := turn_view l r s (Wd.only x)
    exact ⟨by unfold lockL; simp only [h1], by unfold lockL; exact h2⟩
  unfold deedL deedV
  split
  · unfold addL
    split
    · cases h : lkp l r with
      | none =>
        refine ⟨rfl, ?_, by simp⟩
        simp only [Option.isSome_none, Bool.false_eq_true, if_false]
        rw [lkp_app]
        by_cases hs : s = r
        · subst hs; simp [h]
        · cases lkp l s <;> simp [hs]
      | some x => exact ⟨rfl, keep _ h, by simp⟩
    · exact ⟨rfl, keep _ rfl, by simp⟩
  · split
    · unfold goneL
      cases h : lkp l r with
      | none => exact ⟨rfl, keep _ h, by simp⟩
      | some x => exact ⟨rfl, lkp_del _ _ _, by simp⟩
    · split
      · obtain ⟨h1, h2⟩ := lk u
        refine ⟨h1, h2, ?_⟩
        simp only [h1, decide_eq_true_eq]
        split <;> simp
      · split
        · obtain ⟨h1, h2⟩ := lk y
          refine ⟨h1, h2, ?_⟩
          simp only [h1, decide_eq_true_eq]
          split <;> simp
        · split
          · obtain ⟨h1, h2⟩ := turn_view l r s Wd.drop
            exact ⟨by simp only [h1], h2, by simp⟩
          · split
            · obtain ⟨h1, h2⟩ := turn_view l r s Wd.done
              exact ⟨by simp only [h1], h2, by simp⟩
            · obtain ⟨h1, h2⟩ := turn_view l r s Wd.kill
              exact ⟨by simp only [h1], h2, by simp⟩
theorem deedV_taken (p : Int) (r : RefK) (v : Option Wd) (u y : Wd) : 0 ≤ (deedV p r v u y).2.2 ∧ (deedV p r v u y).2.2 ≤ 1 := by
  unfold deedV
  repeat' split
  all_goals (try simp only [])
  all_goals (try split)
  all_goals omega
end Go.Proofs.Ytofkodfdgbjboaa
