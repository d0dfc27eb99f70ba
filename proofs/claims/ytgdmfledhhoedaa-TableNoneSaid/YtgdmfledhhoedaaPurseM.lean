/- A purse in plain Lean: what it holds, what its deeds make of it. -/
import Derived.Test.YtgdmfledhhoedaaMaps
namespace Go.Burg.Purse
open Go.Burg

structure St where
  xk : Int
  xb : Int
  hk : Int
  hb : Int
  kk : Int
  kb : Int
  last : Int
  l : List (Int × Int × Int)

def sumK (l : List (Int × Int × Int)) : Int := (l.map (fun x => x.2.1)).sum
def sumB (l : List (Int × Int × Int)) : Int := (l.map (fun x => x.2.2)).sum

/-- The largest number of 64 bits. -/
def big : Int := 18446744073709551615

structure Inv (s : St) : Prop where
  xk : s.xk ≤ big
  xb : s.xb ≤ big
  hk : 0 ≤ s.hk
  hb : 0 ≤ s.hb
  fk : s.hk + s.kk ≤ s.xk
  fb : s.hb + s.kb ≤ s.xb
  sk : s.kk = sumK s.l
  sb : s.kb = sumB s.l
  ent : ∀ x ∈ s.l, 0 ≤ x.2.1 ∧ 0 ≤ x.2.2 ∧ 1 ≤ x.1 ∧ x.1 ≤ s.last
  nod : (s.l.map Prod.fst).Nodup
  last : 0 ≤ s.last

theorem sumK_nonneg : ∀ {l : List (Int × Int × Int)}, (∀ x ∈ l, 0 ≤ x.2.1) → 0 ≤ sumK l := by
  intro l
  induction l with
  | nil => intro _; simp [sumK]
  | cons x l ih => intro h; have h1 := h x (by simp); have h2 := ih (fun y hy => h y (by simp [hy])); simp [sumK] at *; omega
theorem sumB_nonneg : ∀ {l : List (Int × Int × Int)}, (∀ x ∈ l, 0 ≤ x.2.2) → 0 ≤ sumB l := by
  intro l
  induction l with
  | nil => intro _; simp [sumB]
  | cons x l ih => intro h; have h1 := h x (by simp); have h2 := ih (fun y hy => h y (by simp [hy])); simp [sumB] at *; omega

theorem Inv.kk {s : St} (h : Inv s) : 0 ≤ s.kk := by rw [h.sk]; exact sumK_nonneg fun x hx => (h.ent x hx).1
theorem Inv.kb {s : St} (h : Inv s) : 0 ≤ s.kb := by rw [h.sb]; exact sumB_nonneg fun x hx => (h.ent x hx).2.1

theorem sum_del {l : List (Int × Int × Int)} (hn : (l.map Prod.fst).Nodup) {t k y : Int} (h : l.lookup t = some (k, y)) : sumK (delKV l t) = sumK l - k ∧ sumB (delKV l t) = sumB l - y := by
  induction l with
  | nil => simp at h
  | cons x l ih =>
    obtain ⟨a, b⟩ := x
    simp only [List.map_cons, List.nodup_cons] at hn
    simp only [List.lookup_cons] at h
    by_cases hta : t = a
    · subst hta
      simp at h
      subst h
      have : delKV ((t, k, y) :: l) t = l := by
        simp only [delKV, List.filter_cons, ne_eq, not_true_eq_false, decide_false, Bool.false_eq_true, if_false]
        refine List.filter_eq_self.2 fun z hz => ?_
        simp only [decide_not, Bool.not_eq_true', decide_eq_false_iff_not]
        exact fun e => hn.1 (List.mem_map.2 ⟨z, hz, e⟩)
      rw [this]
      simp [sumK, sumB]
      omega
    · have hf : (t == a) = false := by simpa using hta
      rw [hf] at h
      have hat : a ≠ t := fun e => hta e.symm
      have := ih hn.2 h
      have e : delKV ((a, b) :: l) t = (a, b) :: delKV l t := by simp [delKV, hat]
      rw [e]
      simp [sumK, sumB] at *
      omega

theorem mem_lookup {l : List (Int × Int × Int)} {t k y : Int} (h : l.lookup t = some (k, y)) : (t, k, y) ∈ l := by
  induction l with
  | nil => simp at h
  | cons x l ih =>
    obtain ⟨a, b⟩ := x
    simp only [List.lookup_cons] at h
    by_cases hta : t = a
    · subst hta; simp at h; subst h; simp
    · have hf : (t == a) = false := by simpa using hta
      rw [hf] at h
      exact List.mem_cons_of_mem _ (ih h)

def St.fits (s : St) (k y : Int) : Prop := k ≤ s.xk - (s.hk + s.kk) ∧ y ≤ s.xb - (s.hb + s.kb)
instance (s : St) (k y : Int) : Decidable (s.fits k y) := by unfold St.fits; exact inferInstance

/-- Reserve: the ticket, the error, the purse behind it. -/
def St.res (s : St) (k y : Int) : Int × Int × St :=
  if s.fits k y then (s.last + 1, 0, { s with kk := s.kk + k, kb := s.kb + y, last := s.last + 1, l := s.l ++ [(s.last + 1, k, y)] }) else (0, 10, s)
def St.ref (s : St) (t : Int) : Int × St :=
  match s.l.lookup t with
  | some (k, y) => (0, { s with kk := s.kk - k, kb := s.kb - y, l := delKV s.l t })
  | none => (5, s)
def St.com (s : St) (t : Int) : Int × St :=
  match s.l.lookup t with
  | some (k, y) => (0, { s with hk := s.hk + k, hb := s.hb + y, kk := s.kk - k, kb := s.kb - y, l := delKV s.l t })
  | none => (5, s)
def St.take (s : St) (k y : Int) : Int × St := if s.fits k y then (0, { s with hk := s.hk + k, hb := s.hb + y }) else (10, s)
def St.pay (s : St) (k y : Int) : Int × St := if k ≤ s.hk ∧ y ≤ s.hb then (0, { s with hk := s.hk - k, hb := s.hb - y }) else (10, s)

theorem del_mem {l : List (Int × Int × Int)} {t : Int} {x : Int × Int × Int} (h : x ∈ delKV l t) : x ∈ l := (List.mem_filter.1 h).1

theorem Inv.res {s : St} (h : Inv s) {k y : Int} (hk : 0 ≤ k) (hy : 0 ≤ y) : Inv (s.res k y).2.2 := by
  unfold St.res
  split
  · rename_i hf
    obtain ⟨f1, f2⟩ := hf
    have := h.xk; have := h.xb; have := h.last
    refine ⟨h.xk, h.xb, h.hk, h.hb, by simp only; omega, by simp only; omega, ?_, ?_, ?_, ?_, by simp only; omega⟩
    · simp only [h.sk, sumK, List.map_append, List.sum_append]; simp
    · simp only [h.sb, sumB, List.map_append, List.sum_append]; simp
    · intro x hx
      simp only [List.mem_append, List.mem_singleton] at hx
      rcases hx with hx | rfl
      · have := h.ent x hx; simp only; omega
      · simp only; omega
    · simp only [List.map_append, List.nodup_append]
      refine ⟨h.nod, by simp, fun a ha b hb => ?_⟩
      simp at hb
      obtain ⟨x, hx, rfl⟩ := List.mem_map.1 ha
      have := h.ent x hx
      omega
  · exact h

theorem Inv.fresh {s : St} (h : Inv s) : s.l.lookup (s.last + 1) = none := lookup_none.2 fun x hx => by have := h.ent x hx; omega

theorem Inv.ref {s : St} (h : Inv s) (t : Int) : Inv (s.ref t).2 := by
  unfold St.ref
  split
  · rename_i k y hl
    have hm := h.ent _ (mem_lookup hl)
    obtain ⟨e1, e2⟩ := sum_del h.nod hl
    have := h.fk; have := h.fb
    exact ⟨h.xk, h.xb, h.hk, h.hb, by simp only at *; omega, by simp only at *; omega, by rw [e1, h.sk], by rw [e2, h.sb], fun x hx => h.ent x (del_mem hx), nodup_del h.nod, h.last⟩
  · exact h

theorem Inv.com {s : St} (h : Inv s) (t : Int) : Inv (s.com t).2 := by
  unfold St.com
  split
  · rename_i k y hl
    have hm := h.ent _ (mem_lookup hl)
    obtain ⟨e1, e2⟩ := sum_del h.nod hl
    have := h.fk; have := h.fb; have := h.hk; have := h.hb
    exact ⟨h.xk, h.xb, by simp only at *; omega, by simp only at *; omega, by simp only at *; omega, by simp only at *; omega, by rw [e1, h.sk], by rw [e2, h.sb], fun x hx => h.ent x (del_mem hx), nodup_del h.nod, h.last⟩
  · exact h

theorem Inv.take {s : St} (h : Inv s) {k y : Int} (hk : 0 ≤ k) (hy : 0 ≤ y) : Inv (s.take k y).2 := by
  unfold St.take
  split
  · rename_i hf
    obtain ⟨f1, f2⟩ := hf
    have := h.hk; have := h.hb
    exact ⟨h.xk, h.xb, by simp only; omega, by simp only; omega, by simp only; omega, by simp only; omega, h.sk, h.sb, h.ent, h.nod, h.last⟩
  · exact h

theorem Inv.pay {s : St} (h : Inv s) {k y : Int} (hk : 0 ≤ k) (hy : 0 ≤ y) : Inv (s.pay k y).2 := by
  unfold St.pay
  split
  · rename_i hf
    obtain ⟨f1, f2⟩ := hf
    have := h.fk; have := h.fb
    exact ⟨h.xk, h.xb, by simp only; omega, by simp only; omega, by simp only; omega, by simp only; omega, h.sk, h.sb, h.ent, h.nod, h.last⟩
  · exact h

/-- A deed of an 'act' (p: which): the ticket, the error, the purse. -/
def St.act (s : St) (p t k y : Int) : Int × Int × St :=
  if p = 2 then (0, s.com t) else if p = 3 then (0, s.ref t) else if p = 4 then (0, s.take k y) else if p = 5 then (0, s.pay k y) else s.res k y

theorem Inv.act {s : St} (h : Inv s) {k y : Int} (hk : 0 ≤ k) (hy : 0 ≤ y) (p t : Int) : Inv (s.act p t k y).2.2 := by
  unfold St.act
  split
  · exact h.com t
  · split
    · exact h.ref t
    · split
      · exact h.take hk hy
      · split
        · exact h.pay hk hy
        · exact h.res hk hy

theorem wrap_in {x : Int} (h0 : 0 ≤ x) (h1 : x ≤ big) : IntKind.u64.wrap x = x := by
  unfold big at h1
  have : IntKind.u64.wrap x = x % 18446744073709551616 := rfl
  rw [this]
  omega

/-- A new purse. -/
def St.new (mk mb : Int) : St := ⟨mk, mb, 0, 0, 0, 0, 0, []⟩
theorem Inv.new {mk mb : Int} (h1 : 0 ≤ mk) (h2 : mk ≤ big) (h3 : 0 ≤ mb) (h4 : mb ≤ big) : Inv (St.new mk mb) :=
  ⟨h2, h4, by simp [St.new], by simp [St.new], by simp [St.new]; omega, by simp [St.new]; omega, rfl, rfl, by simp [St.new], by simp [St.new], by simp [St.new]⟩
end Go.Burg.Purse
