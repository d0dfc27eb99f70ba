/- The reference model's purse in plain Lean, and how it goes with the plain purse. -/
import Derived.Test.YtkdimkaladbnpaaPurseM
namespace Go.Burg.Purse
open Go.Burg

/-- A ticket: its amount, and whether it is open. -/
structure Tk where
  k : Int
  y : Int
  op : Bool
instance : Inhabited Tk := ⟨⟨0, 0, false⟩⟩

def okK (T : List Tk) : Int := (T.map fun t => if t.op then t.k else 0).sum
def okB (T : List Tk) : Int := (T.map fun t => if t.op then t.y else 0).sum

theorem okK_take {T : List Tk} {i : Nat} {t : Tk} (h : T[i]? = some t) : okK (T.take (i + 1)) = okK (T.take i) + (if t.op then t.k else 0) := by
  rw [List.take_add_one, h]
  simp [okK]
theorem okB_take {T : List Tk} {i : Nat} {t : Tk} (h : T[i]? = some t) : okB (T.take (i + 1)) = okB (T.take i) + (if t.op then t.y else 0) := by
  rw [List.take_add_one, h]
  simp [okB]
theorem okK_app (T S : List Tk) : okK (T ++ S) = okK T + okK S := by simp [okK]
theorem okB_app (T S : List Tk) : okB (T ++ S) = okB T + okB S := by simp [okB]

def Pos (T : List Tk) : Prop := ∀ t ∈ T, 0 ≤ t.k ∧ 0 ≤ t.y
theorem okK_pos {T : List Tk} (h : Pos T) : 0 ≤ okK T := by
  induction T with
  | nil => simp [okK]
  | cons t T ih =>
    have h1 := h t (by simp)
    have h2 := ih fun x hx => h x (by simp [hx])
    simp only [okK, List.map_cons, List.sum_cons] at h2 ⊢
    split <;> omega
theorem okB_pos {T : List Tk} (h : Pos T) : 0 ≤ okB T := by
  induction T with
  | nil => simp [okB]
  | cons t T ih =>
    have h1 := h t (by simp)
    have h2 := ih fun x hx => h x (by simp [hx])
    simp only [okB, List.map_cons, List.sum_cons] at h2 ⊢
    split <;> omega
theorem Pos.take {T : List Tk} (h : Pos T) (i : Nat) : Pos (T.take i) := fun t ht => h t (List.mem_of_mem_take ht)
theorem Pos.drop {T : List Tk} (h : Pos T) (i : Nat) : Pos (T.drop i) := fun t ht => h t (List.mem_of_mem_drop ht)
theorem okK_le {T : List Tk} (h : Pos T) (i : Nat) : okK (T.take i) ≤ okK T := by
  have := okK_app (T.take i) (T.drop i)
  rw [List.take_append_drop] at this
  have := okK_pos (h.drop i)
  omega
theorem okB_le {T : List Tk} (h : Pos T) (i : Nat) : okB (T.take i) ≤ okB T := by
  have := okB_app (T.take i) (T.drop i)
  rw [List.take_append_drop] at this
  have := okB_pos (h.drop i)
  omega

/-- The reference's purse. -/
structure RSt where
  xk : Int
  xb : Int
  hk : Int
  hb : Int
  T : List Tk

def close (T : List Tk) (i : Nat) : List Tk := T.set i ⟨(T.getD i default).k, (T.getD i default).y, false⟩
/-- Whether a ticket is open. -/
def RSt.isOpen (r : RSt) (t : Int) : Bool := decide (1 ≤ t) && decide (t ≤ r.T.length) && (r.T.getD (t - 1).toNat default).op

def RSt.fits (r : RSt) (k y : Int) : Prop := k ≤ r.xk - (r.hk + okK r.T) ∧ y ≤ r.xb - (r.hb + okB r.T)
instance (r : RSt) (k y : Int) : Decidable (r.fits k y) := by unfold RSt.fits; exact inferInstance
def RSt.res (r : RSt) (k y : Int) : RSt × Int × Int :=
  if r.fits k y then ({ r with T := r.T ++ [⟨k, y, true⟩] }, r.T.length + 1, 0) else (r, 0, 10)
def RSt.ref (r : RSt) (t : Int) : RSt × Int :=
  if r.isOpen t then ({ r with T := close r.T (t - 1).toNat }, 0) else (r, 5)
def RSt.com (r : RSt) (t : Int) : RSt × Int :=
  if r.isOpen t then ({ r with T := close r.T (t - 1).toNat, hk := r.hk + (r.T.getD (t - 1).toNat default).k, hb := r.hb + (r.T.getD (t - 1).toNat default).y }, 0) else (r, 5)
def RSt.take (r : RSt) (k y : Int) : RSt × Int := if r.fits k y then ({ r with hk := r.hk + k, hb := r.hb + y }, 0) else (r, 10)
def RSt.pay (r : RSt) (k y : Int) : RSt × Int := if k ≤ r.hk ∧ y ≤ r.hb then ({ r with hk := r.hk - k, hb := r.hb - y }, 0) else (r, 10)

/-- The reference's own invariant. -/
structure RInv (r : RSt) : Prop where
  xk : r.xk ≤ big
  xb : r.xb ≤ big
  hk : 0 ≤ r.hk
  hb : 0 ≤ r.hb
  fk : r.hk + okK r.T ≤ r.xk
  fb : r.hb + okB r.T ≤ r.xb
  pos : Pos r.T

/-- The plain purse and the reference's go together. -/
structure Goes (s : St) (r : RSt) : Prop where
  xk : s.xk = r.xk
  xb : s.xb = r.xb
  hk : s.hk = r.hk
  hb : s.hb = r.hb
  kk : s.kk = okK r.T
  kb : s.kb = okB r.T
  last : s.last = r.T.length
  cnt : s.l.length = r.T.countP Tk.op
  look : ∀ t k y, s.l.lookup t = some (k, y) ↔ ∃ i : Nat, t = i + 1 ∧ r.T[i]? = some ⟨k, y, true⟩
  pos : Pos r.T

theorem Goes.inv {s : St} {r : RSt} (h : Goes s r) (hi : Inv s) : RInv r :=
  ⟨by rw [← h.xk]; exact hi.xk, by rw [← h.xb]; exact hi.xb, by rw [← h.hk]; exact hi.hk, by rw [← h.hb]; exact hi.hb, by rw [← h.hk, ← h.kk, ← h.xk]; exact hi.fk, by rw [← h.hb, ← h.kb, ← h.xb]; exact hi.fb, h.pos⟩

theorem Goes.new (xk xb : Int) : Goes (St.new xk xb) ⟨xk, xb, 0, 0, []⟩ :=
  ⟨rfl, rfl, rfl, rfl, rfl, rfl, rfl, rfl, fun t k y => by simp [St.new], fun t h => by simp at h⟩

theorem isOpen_iff {r : RSt} {t : Int} : r.isOpen t = true ↔ ∃ (i : Nat) (x : Tk), t = i + 1 ∧ r.T[i]? = some x ∧ x.op = true := by
  unfold RSt.isOpen
  simp only [Bool.and_eq_true, decide_eq_true_eq]
  constructor
  · rintro ⟨⟨h1, h2⟩, h3⟩
    have hl : (t - 1).toNat < r.T.length := by omega
    refine ⟨(t - 1).toNat, r.T[(t - 1).toNat], by omega, List.getElem?_eq_getElem hl, ?_⟩
    rw [List.getD_eq_getElem?_getD, List.getElem?_eq_getElem hl] at h3
    exact h3
  · rintro ⟨i, x, rfl, h1, h2⟩
    have hl := (List.getElem?_eq_some_iff.1 h1).1
    have e : ((i : Int) + 1 - 1).toNat = i := by omega
    refine ⟨⟨by omega, by omega⟩, ?_⟩
    rw [e, List.getD_eq_getElem?_getD, h1]
    exact h2

theorem Goes.fits {s : St} {r : RSt} (h : Goes s r) (k y : Int) : s.fits k y ↔ r.fits k y := by
  unfold St.fits RSt.fits
  rw [h.xk, h.xb, h.hk, h.hb, h.kk, h.kb]

theorem lookup_app {l : List (Int × Int × Int)} {t u : Int} {v : Int × Int} : (l ++ [(u, v)]).lookup t = (l.lookup t).or (if t = u then some v else none) := by
  induction l with
  | nil =>
    by_cases e : t = u
    · simp [e]
    · have : (t == u) = false := by simpa using e
      simp [List.lookup, this, e]
  | cons x l ih =>
    obtain ⟨a, b⟩ := x
    simp only [List.cons_append, List.lookup_cons]
    cases t == a
    · exact ih
    · rfl

theorem Goes.res {s : St} {r : RSt} (h : Goes s r) (hi : Inv s) {k y : Int} (hk : 0 ≤ k) (hy : 0 ≤ y) :
    Goes (s.res k y).2.2 (r.res k y).1 ∧ (s.res k y).1 = (r.res k y).2.1 ∧ (s.res k y).2.1 = (r.res k y).2.2 := by
  unfold St.res RSt.res
  by_cases hf : s.fits k y
  · rw [if_pos hf, if_pos ((h.fits k y).1 hf)]
    refine ⟨⟨h.xk, h.xb, h.hk, h.hb, ?_, ?_, ?_, ?_, ?_, ?_⟩, by simp only; rw [h.last], rfl⟩
    · simp only [okK_app, h.kk]
      simp [okK]
    · simp only [okB_app, h.kb]
      simp [okB]
    · simp only [h.last, List.length_append]
      simp
    · simp [h.cnt]
    · intro t k' y'
      simp only [lookup_app]
      rw [h.last]
      constructor
      · intro hl
        cases hs : s.l.lookup t with
        | some x =>
          rw [hs] at hl
          simp at hl
          subst hl
          obtain ⟨i, hi1, hi2⟩ := (h.look t k' y').1 hs
          exact ⟨i, hi1, by rw [List.getElem?_append_left (List.getElem?_eq_some_iff.1 hi2).1]; exact hi2⟩
        | none =>
          rw [hs] at hl
          by_cases e : t = (r.T.length : Int) + 1
          · simp [e] at hl
            obtain ⟨rfl, rfl⟩ := hl
            exact ⟨r.T.length, e, by simp⟩
          · simp [e] at hl
      · rintro ⟨i, rfl, hi2⟩
        by_cases hil : i < r.T.length
        · rw [List.getElem?_append_left hil] at hi2
          rw [(h.look _ k' y').2 ⟨i, rfl, hi2⟩]
          rfl
        · rw [List.getElem?_append_right (by omega)] at hi2
          have hi0 : i - r.T.length = 0 := by
            have := (List.getElem?_eq_some_iff.1 hi2).1
            simp at this
            omega
          rw [hi0] at hi2
          simp at hi2
          obtain ⟨rfl, rfl⟩ := hi2
          have hil' : i = r.T.length := by omega
          subst hil'
          have hn : s.l.lookup ((r.T.length : Int) + 1) = none := by rw [← h.last]; exact hi.fresh
          rw [hn]
          simp
    · intro t ht
      simp only [List.mem_append, List.mem_singleton] at ht
      rcases ht with ht | rfl
      · exact h.pos t ht
      · exact ⟨hk, hy⟩
  · rw [if_neg hf, if_neg (fun e => hf ((h.fits k y).2 e))]
    exact ⟨h, rfl, rfl⟩

theorem lookup_del {l : List (Int × Int × Int)} {t u : Int} : (delKV l u).lookup t = if t = u then none else l.lookup t := by
  induction l with
  | nil => simp [delKV]
  | cons x l ih =>
    obtain ⟨a, b⟩ := x
    unfold delKV at ih ⊢
    by_cases hau : a = u
    · subst hau
      simp only [List.filter_cons, ne_eq, not_true_eq_false, decide_false, Bool.false_eq_true, if_false] at ih ⊢
      rw [ih]
      by_cases e : t = a
      · simp [e]
      · have : (t == a) = false := by simpa using e
        simp [List.lookup_cons, e, this]
    · simp only [List.filter_cons, ne_eq, hau, not_false_eq_true, decide_true, if_true, List.lookup_cons] at ih ⊢
      by_cases e : t = a
      · subst e
        simp [hau]
      · have : (t == a) = false := by simpa using e
        simp only [this]
        exact ih

theorem sum_close {T : List Tk} {i : Nat} {t : Tk} (h : T[i]? = some t) (ho : t.op = true) :
    okK (T.set i ⟨t.k, t.y, false⟩) = okK T - t.k ∧ okB (T.set i ⟨t.k, t.y, false⟩) = okB T - t.y ∧ (T.set i ⟨t.k, t.y, false⟩).countP Tk.op + 1 = T.countP Tk.op := by
  induction T generalizing i with
  | nil => simp at h
  | cons a T ih =>
    cases i with
    | zero =>
      simp at h
      subst h
      simp [okK, okB, ho]
      omega
    | succ i =>
      simp at h
      obtain ⟨h1, h2, h3⟩ := ih h
      simp only [okK, okB] at h1 h2
      simp only [List.set_cons_succ, okK, okB, List.map_cons, List.sum_cons, List.countP_cons, h1, h2]
      omega

theorem length_del {l : List (Int × Int × Int)} (hn : (l.map Prod.fst).Nodup) {t k y : Int} (h : l.lookup t = some (k, y)) : (delKV l t).length + 1 = l.length := by
  induction l with
  | nil => simp at h
  | cons x l ih =>
    obtain ⟨a, b⟩ := x
    simp only [List.map_cons, List.nodup_cons] at hn
    simp only [List.lookup_cons] at h
    by_cases hta : t = a
    · subst hta
      have : delKV ((t, b) :: l) t = l := by
        simp only [delKV, List.filter_cons, ne_eq, not_true_eq_false, decide_false, Bool.false_eq_true, if_false]
        refine List.filter_eq_self.2 fun z hz => ?_
        simp only [decide_not, Bool.not_eq_true', decide_eq_false_iff_not]
        exact fun e => hn.1 (List.mem_map.2 ⟨z, hz, e⟩)
      rw [this]
      simp
    · have hf : (t == a) = false := by simpa using hta
      rw [hf] at h
      have hat : a ≠ t := fun e => hta e.symm
      have := ih hn.2 h
      have e : delKV ((a, b) :: l) t = (a, b) :: delKV l t := by simp [delKV, hat]
      rw [e]
      simp only [List.length_cons]
      omega

/-- What closing a ticket makes of both. -/
theorem Goes.closed {s : St} {r : RSt} (h : Goes s r) (hi : Inv s) {i : Nat} {x : Tk} (hx : r.T[i]? = some x) (ho : x.op = true) :
    s.l.lookup ((i : Int) + 1) = some (x.k, x.y) ∧ close r.T i = r.T.set i ⟨x.k, x.y, false⟩ ∧
    Goes { s with kk := s.kk - x.k, kb := s.kb - x.y, l := delKV s.l ((i : Int) + 1) } { r with T := close r.T i } := by
  have hx' : r.T[i]? = some ⟨x.k, x.y, true⟩ := by rw [hx, ← ho]
  have hl := (h.look _ x.k x.y).2 ⟨i, rfl, hx'⟩
  have hc : close r.T i = r.T.set i ⟨x.k, x.y, false⟩ := by simp [close, hx]
  obtain ⟨s1, s2, s3⟩ := sum_close hx ho
  have hlen := (List.getElem?_eq_some_iff.1 hx).1
  refine ⟨hl, hc, ⟨h.xk, h.xb, h.hk, h.hb, ?_, ?_, ?_, ?_, ?_, ?_⟩⟩
  · simp only [hc, s1, h.kk]
  · simp only [hc, s2, h.kb]
  · simp only [hc, List.length_set, h.last]
  · simp only [hc]
    have := length_del hi.nod hl
    have := h.cnt
    omega
  · intro t k y
    simp only [hc, lookup_del]
    by_cases e : t = (i : Int) + 1
    · subst e
      simp only [if_true]
      constructor
      · intro h; cases h
      · rintro ⟨j, hj, hj2⟩
        obtain rfl : i = j := by omega
        rw [List.getElem?_set_self hlen] at hj2
        cases hj2
    · rw [if_neg e, h.look]
      constructor
      · rintro ⟨j, rfl, hj⟩
        exact ⟨j, rfl, by rw [List.getElem?_set_ne (by omega)]; exact hj⟩
      · rintro ⟨j, rfl, hj⟩
        rw [List.getElem?_set_ne (by omega)] at hj
        exact ⟨j, rfl, hj⟩
  · intro t ht
    simp only [hc] at ht
    rcases List.mem_or_eq_of_mem_set ht with ht | rfl
    · exact h.pos t ht
    · exact h.pos x (List.mem_of_getElem? hx)

theorem Goes.shut {s : St} {r : RSt} (h : Goes s r) {t : Int} (ho : r.isOpen t = false) : s.l.lookup t = none := by
  cases hl : s.l.lookup t with
  | none => rfl
  | some x =>
    obtain ⟨k, y⟩ := x
    obtain ⟨i, hi1, hi2⟩ := (h.look t k y).1 hl
    have := isOpen_iff.2 ⟨i, _, hi1, hi2, rfl⟩
    rw [ho] at this
    cases this

theorem Goes.ref {s : St} {r : RSt} (h : Goes s r) (hi : Inv s) (t : Int) : Goes (s.ref t).2 (r.ref t).1 ∧ (s.ref t).1 = (r.ref t).2 := by
  unfold St.ref RSt.ref
  cases ho : r.isOpen t
  · rw [h.shut ho]
    exact ⟨h, rfl⟩
  · obtain ⟨i, x, rfl, h1, h2⟩ := isOpen_iff.1 ho
    obtain ⟨g1, _, g3⟩ := h.closed hi h1 h2
    rw [g1]
    have e : ((i : Int) + 1 - 1).toNat = i := by omega
    simp only [e, if_true]
    exact ⟨g3, trivial⟩

theorem Goes.com {s : St} {r : RSt} (h : Goes s r) (hi : Inv s) (t : Int) : Goes (s.com t).2 (r.com t).1 ∧ (s.com t).1 = (r.com t).2 := by
  unfold St.com RSt.com
  cases ho : r.isOpen t
  · rw [h.shut ho]
    exact ⟨h, rfl⟩
  · obtain ⟨i, x, rfl, h1, h2⟩ := isOpen_iff.1 ho
    obtain ⟨g1, _, g3⟩ := h.closed hi h1 h2
    rw [g1]
    have e : ((i : Int) + 1 - 1).toNat = i := by omega
    have e2 : r.T.getD i default = x := by rw [List.getD_eq_getElem?_getD, h1]; rfl
    simp only [e, e2, if_true]
    exact ⟨⟨g3.xk, g3.xb, by simp only [h.hk], by simp only [h.hb], g3.kk, g3.kb, g3.last, g3.cnt, g3.look, g3.pos⟩, trivial⟩

theorem Goes.take {s : St} {r : RSt} (h : Goes s r) (k y : Int) : Goes (s.take k y).2 (r.take k y).1 ∧ (s.take k y).1 = (r.take k y).2 := by
  unfold St.take RSt.take
  by_cases hf : s.fits k y
  · rw [if_pos hf, if_pos ((h.fits k y).1 hf)]
    exact ⟨⟨h.xk, h.xb, by simp only [h.hk], by simp only [h.hb], h.kk, h.kb, h.last, h.cnt, h.look, h.pos⟩, rfl⟩
  · rw [if_neg hf, if_neg (fun e => hf ((h.fits k y).2 e))]
    exact ⟨h, rfl⟩

theorem Goes.pay {s : St} {r : RSt} (h : Goes s r) (k y : Int) : Goes (s.pay k y).2 (r.pay k y).1 ∧ (s.pay k y).1 = (r.pay k y).2 := by
  unfold St.pay RSt.pay
  by_cases hf : k ≤ s.hk ∧ y ≤ s.hb
  · rw [if_pos hf, if_pos (by rw [← h.hk, ← h.hb]; exact hf)]
    exact ⟨⟨h.xk, h.xb, by simp only [h.hk], by simp only [h.hb], h.kk, h.kb, h.last, h.cnt, h.look, h.pos⟩, rfl⟩
  · rw [if_neg hf, if_neg (by rw [← h.hk, ← h.hb]; exact hf)]
    exact ⟨h, rfl⟩

/-- A deed of a 'does'. -/
def RSt.act (r : RSt) (p t k y : Int) : RSt :=
  if p = 2 then (r.com t).1 else if p = 3 then (r.ref t).1 else if p = 4 then (r.take k y).1 else if p = 5 then (r.pay k y).1 else (r.res k y).1

theorem Goes.act {s : St} {r : RSt} (h : Goes s r) (hi : Inv s) {k y : Int} (hk : 0 ≤ k) (hy : 0 ≤ y) (p t : Int) : Goes (s.act p t k y).2.2 (r.act p t k y) := by
  unfold St.act RSt.act
  split
  · exact (h.com hi t).1
  · split
    · exact (h.ref hi t).1
    · split
      · exact (h.take k y).1
      · split
        · exact (h.pay k y).1
        · exact (h.res hi hk hy).1
end Go.Burg.Purse
