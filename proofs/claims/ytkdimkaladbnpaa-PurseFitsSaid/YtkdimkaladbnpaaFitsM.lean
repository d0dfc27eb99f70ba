/- What PurseFits says of the plain purse. -/
import Derived.Test.YtkdimkaladbnpaaPurseM
namespace Go.Burg.Purse.Fit
open Go.Burg Go.Burg.Purse

theorem nodup_le : ∀ (n : Nat) (l : List Int), l.Nodup → (∀ x ∈ l, 1 ≤ x ∧ x ≤ n) → l.length ≤ n := by
  intro n
  induction n with
  | zero =>
    intro l _ h
    cases l with
    | nil => simp
    | cons x l => have := h x (by simp); omega
  | succ n ih =>
    intro l hn h
    have h1 := ih (l.filter (fun x => decide (x ≠ ((n + 1 : Nat) : Int)))) (List.Nodup.sublist List.filter_sublist hn) (fun x hx => by
      have h2 := List.mem_filter.1 hx
      have h3 := h x h2.1
      have h4 : x ≠ ((n + 1 : Nat) : Int) := by simpa using h2.2
      omega)
    have h5 : l.length ≤ (l.filter (fun x => decide (x ≠ ((n + 1 : Nat) : Int)))).length + 1 := by
      clear ih h h1
      induction l with
      | nil => simp
      | cons x l ihl =>
        simp only [List.nodup_cons] at hn
        by_cases hx : x = ((n + 1 : Nat) : Int)
        · have : l.filter (fun x => decide (x ≠ ((n + 1 : Nat) : Int))) = l := List.filter_eq_self.2 fun y hy => by
            simp only [ne_eq, decide_not, Bool.not_eq_true', decide_eq_false_iff_not]
            exact fun e => hn.1 (by rw [hx, ← e]; exact hy)
          simp only [List.filter_cons, hx, ne_eq, not_true_eq_false, decide_false, Bool.false_eq_true, if_false]
          simp only [ne_eq] at this
          rw [this]
          simp
        · have := ihl hn.2
          simp only [List.filter_cons, ne_eq, hx, not_false_eq_true, decide_true, if_true, List.length_cons]
          simp only [ne_eq] at this
          omega
    omega

theorem open_le {s : St} (hi : Inv s) : (s.l.length : Int) ≤ s.last := by
  have h0 := hi.last
  have h := nodup_le s.last.toNat (s.l.map Prod.fst) hi.nod (fun x hx => by
    obtain ⟨y, hy, rfl⟩ := List.mem_map.1 hx
    have := hi.ent y hy
    omega)
  simp at h
  omega

theorem del_new {l : List (Int × Int × Int)} {t k y : Int} (h : l.lookup t = none) : delKV (l ++ [(t, k, y)]) t = l ∧ (l ++ [(t, k, y)]).lookup t = some (k, y) := by
  have h0 := lookup_none.1 h
  refine ⟨?_, ?_⟩
  · simp only [delKV, List.filter_append]
    have h1 : l.filter (fun x => decide (x.1 ≠ t)) = l := List.filter_eq_self.2 fun x hx => by simpa using h0 x hx
    rw [h1]
    simp
  · induction l with
    | nil => simp
    | cons x l ih =>
      obtain ⟨a, b⟩ := x
      have ha := h0 (a, b) (by simp)
      have : (t == a) = false := by simpa using fun e : t = a => ha e.symm
      simp only [List.cons_append, List.lookup_cons, this]
      exact ih (lookup_none.2 fun x hx => h0 x (by simp [hx])) (fun x hx => h0 x (by simp [hx]))

/-- The purse behind a reserve that fits. -/
def rs (s : St) (k y : Int) : St := { s with kk := s.kk + k, kb := s.kb + y, last := s.last + 1, l := s.l ++ [(s.last + 1, k, y)] }
/-- Behind its refund. -/
def rf (s : St) : St := { s with last := s.last + 1 }
/-- Behind its commit. -/
def rc (s : St) (k y : Int) : St := { s with hk := s.hk + k, hb := s.hb + y, last := s.last + 1 }
/-- Behind a take. -/
def tk (s : St) (k y : Int) : St := { s with hk := s.hk + k, hb := s.hb + y }

theorem res_rs {s : St} {k y : Int} (h : s.fits k y) : s.res k y = (s.last + 1, 0, rs s k y) := if_pos h
theorem take_tk {s : St} {k y : Int} (h : s.fits k y) : s.take k y = (0, tk s k y) := if_pos h
theorem ref_rs {s : St} (hi : Inv s) {k y : Int} : (rs s k y).ref (s.last + 1) = (0, rf s) := by
  obtain ⟨h1, h2⟩ := del_new (k := k) (y := y) hi.fresh
  unfold St.ref rs rf
  simp only [h2, h1]
  congr 1
  cases s
  simp
theorem com_rs {s : St} (hi : Inv s) {k y : Int} : (rs s k y).com (s.last + 1) = (0, rc s k y) := by
  obtain ⟨h1, h2⟩ := del_new (k := k) (y := y) hi.fresh
  unfold St.com rs rc
  simp only [h2, h1]
  congr 1
  cases s
  simp
theorem pay_tk {s : St} (hi : Inv s) {k y : Int} : (tk s k y).pay k y = (0, s) := by
  have h1 := hi.hk
  have h2 := hi.hb
  unfold St.pay tk
  rw [if_pos ⟨by simp only; omega, by simp only; omega⟩]
  congr 1
  cases s
  simp
theorem wraps {s : St} (hi : Inv s) {k y : Int} (hk : 0 ≤ k) (hy : 0 ≤ y) (h : s.fits k y) : IntKind.u64.wrap (s.hk + s.kk + k) = s.hk + s.kk + k ∧ IntKind.u64.wrap (s.hb + s.kb + y) = s.hb + s.kb + y := by
  obtain ⟨h1, h2⟩ := h
  have := hi.hk; have := hi.hb; have := hi.kk; have := hi.kb; have := hi.xk; have := hi.xb
  exact ⟨wrap_in (by omega) (by omega), wrap_in (by omega) (by omega)⟩
end Go.Burg.Purse.Fit
