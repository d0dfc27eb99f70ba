/- TableQuota: the plain law. -/
import Derived.Test.YtiddojegcbpafaaPurseM
namespace Go.Burg.Quota
open Go.Burg Go.Burg.Purse

/-- A purse, and four gates: which are open, what each asked last, its ticket, what it pays back. -/
structure Qs where
  s : St
  o : Nat → Bool
  k : Nat → Int
  b : Nat → Int
  t : Nat → Int
  u : Nat → Int
  v : Nat → Int

def set {α : Type} (f : Nat → α) (n : Nat) (x : α) : Nat → α := fun i => if i = n then x else f i
/-- What gate i holds reserved. -/
def wt (o : Nat → Bool) (k : Nat → Int) (i : Nat) : Int := if o i then max (k i) 0 else 0
def sum4 (f : Nat → Int) : Nat → Int
  | 0 => 0
  | n + 1 => sum4 f n + f n

structure QI (xk xb : Int) (r : Nat) (q : Qs) : Prop where
  inv : Inv q.s
  lk : q.s.xk = xk
  lb : q.s.xb = xb
  last : q.s.last ≤ r
  sk : q.s.kk = sum4 (wt q.o q.k) 4
  sb : q.s.kb = sum4 (wt q.o q.b) 4
  look : ∀ i, i < 4 → q.o i = true → q.s.l.lookup (q.t i) = some (max (q.k i) 0, max (q.b i) 0) ∧ q.u i = max (-q.k i) 0 ∧ q.v i = max (-q.b i) 0
  dist : ∀ i j, i < 4 → j < 4 → i ≠ j → q.o i = true → q.o j = true → q.t i ≠ q.t j
  rk : ∀ i, i < 4 → -128 ≤ q.k i ∧ q.k i ≤ 127
  rb : ∀ i, i < 4 → -128 ≤ q.b i ∧ q.b i ≤ 127

theorem sum4_set {o : Nat → Bool} {k : Nat → Int} {n : Nat} (hn : n < 4) : sum4 (wt (set o n false) k) 4 = sum4 (wt o k) 4 - wt o k n := by
  rcases (by omega : n = 0 ∨ n = 1 ∨ n = 2 ∨ n = 3) with rfl | rfl | rfl | rfl <;> simp [sum4, wt, set] <;> omega
theorem sum4_put {o : Nat → Bool} {k : Nat → Int} {n : Nat} (hn : n < 4) (b : Bool) (x : Int) : sum4 (wt (set o n b) (set k n x)) 4 = sum4 (wt (set o n false) k) 4 + (if b then max x 0 else 0) := by
  rcases (by omega : n = 0 ∨ n = 1 ∨ n = 2 ∨ n = 3) with rfl | rfl | rfl | rfl <;> cases b <;> simp [sum4, wt, set] <;> omega
theorem sum4_range {o : Nat → Bool} {k : Nat → Int} (hk : ∀ i, i < 4 → -128 ≤ k i ∧ k i ≤ 127) : ∀ n, n ≤ 4 → 0 ≤ sum4 (wt o k) n ∧ sum4 (wt o k) n ≤ 127 * n := by
  intro n
  induction n with
  | zero => intro _; simp [sum4]
  | succ n ih =>
    intro h
    have h1 := ih (by omega)
    have h2 := hk n (by omega)
    have h3 : 0 ≤ wt o k n ∧ wt o k n ≤ 127 := by
      unfold wt
      split <;> omega
    simp only [sum4]
    omega

theorem lookup_del {l : List (Int × Int × Int)} {a c : Int} (h : a ≠ c) : (delKV l c).lookup a = l.lookup a := by
  induction l with
  | nil => rfl
  | cons x l ih =>
    obtain ⟨y, z⟩ := x
    by_cases hyc : y = c
    · subst hyc
      have e : delKV ((y, z) :: l) y = delKV l y := by simp [delKV]
      have hf : (a == y) = false := by simpa using h
      rw [e, ih, List.lookup_cons, hf]
    · have e : delKV ((y, z) :: l) c = (y, z) :: delKV l c := by simp [delKV, hyc]
      rw [e, List.lookup_cons, List.lookup_cons, ih]
theorem lookup_app {l : List (Int × Int × Int)} {a c : Int} {x y : Int × Int} (h : l.lookup a = some x) : (l ++ [(c, y)]).lookup a = some x := by
  rw [List.lookup_append, h]; rfl

/-- The gate closed, however. -/
def shut (q : Qs) (n : Nat) (s : St) : Qs := { q with s := s, o := set q.o n false }
/-- Gate n's reservation is closed without a payment. -/
def refQ (q : Qs) (n : Nat) : Qs := shut q n (if q.o n then (q.s.ref (q.t n)).2 else q.s)

theorem QI.mono {xk xb : Int} {r r' : Nat} {q : Qs} (h : QI xk xb r q) (hr : r ≤ r') : QI xk xb r' q := { h with last := by have := h.last; omega }

/-- What closing leaves: the list without that ticket. -/
theorem QI.closed {xk xb : Int} {r n : Nat} {q : Qs} (h : QI xk xb r q) (hn : n < 4) (s : St) (hi : Inv s) (h1 : s.xk = q.s.xk) (h2 : s.xb = q.s.xb) (h3 : s.last = q.s.last)
    (h4 : s.kk = q.s.kk - wt q.o q.k n) (h5 : s.kb = q.s.kb - wt q.o q.b n) (h6 : ∀ i, i < 4 → i ≠ n → q.o i = true → s.l.lookup (q.t i) = q.s.l.lookup (q.t i)) : QI xk xb r (shut q n s) := by
  have ho : ∀ i, set q.o n false i = true → i ≠ n ∧ q.o i = true := fun i hi => by
    unfold set at hi
    split at hi
    · cases hi
    · rename_i hne
      exact ⟨hne, hi⟩
  refine ⟨hi, h1.trans h.lk, h2.trans h.lb, by show s.last ≤ _; rw [h3]; exact h.last, ?_, ?_, fun i hi4 hoi => ?_, fun i j hi4 hj4 hij hoi hoj => ?_, h.rk, h.rb⟩
  · show s.kk = sum4 (wt (set q.o n false) q.k) 4
    rw [sum4_set hn, ← h.sk]; exact h4
  · show s.kb = sum4 (wt (set q.o n false) q.b) 4
    rw [sum4_set hn, ← h.sb]; exact h5
  · obtain ⟨g1, g2⟩ := ho i hoi
    obtain ⟨l1, l2⟩ := h.look i hi4 g2
    exact ⟨(h6 i hi4 g1 g2).trans l1, l2⟩
  · exact h.dist i j hi4 hj4 hij (ho i hoi).2 (ho j hoj).2

theorem QI.ref {xk xb : Int} {r n : Nat} {q : Qs} (h : QI xk xb r q) (hn : n < 4) : QI xk xb r (refQ q n) ∧ (refQ q n).s.hk = q.s.hk ∧ (refQ q n).s.hb = q.s.hb := by
  unfold refQ
  cases hon : q.o n
  · refine ⟨h.closed hn q.s h.inv rfl rfl rfl (by simp [wt, hon]) (by simp [wt, hon]) (fun _ _ _ _ => rfl), rfl, rfl⟩
  · obtain ⟨l1, _, _⟩ := h.look n hn hon
    have e : (q.s.ref (q.t n)).2 = { q.s with kk := q.s.kk - max (q.k n) 0, kb := q.s.kb - max (q.b n) 0, l := delKV q.s.l (q.t n) } := by unfold St.ref; rw [l1]
    simp only [if_true]
    refine ⟨h.closed hn _ (h.inv.ref _) (by rw [e]) (by rw [e]) (by rw [e]) (by rw [e]; simp [wt, hon]) (by rw [e]; simp [wt, hon]) (fun i hi hin hoi => ?_), by rw [e]; rfl, by rw [e]; rfl⟩
    rw [e]
    exact lookup_del (h.dist i n hi hn hin hoi hon)

/-- Gate n's reservation is committed. -/
def comS (s : St) (t u v : Int) : St := ((s.com t).2.pay u v).2
def comQ (q : Qs) (n : Nat) : Qs := shut q n (if q.o n then comS q.s (q.t n) (q.u n) (q.v n) else q.s)
/-- What becomes of the balance. -/
def comH (q : Qs) (n : Nat) : Int × Int :=
  if q.o n then
    (if q.s.hk + max (q.k n) 0 ≥ max (-q.k n) 0 ∧ q.s.hb + max (q.b n) 0 ≥ max (-q.b n) 0 then (q.s.hk + max (q.k n) 0 - max (-q.k n) 0, q.s.hb + max (q.b n) 0 - max (-q.b n) 0)
     else (q.s.hk + max (q.k n) 0, q.s.hb + max (q.b n) 0))
  else (q.s.hk, q.s.hb)

theorem QI.com {xk xb : Int} {r n : Nat} {q : Qs} (h : QI xk xb r q) (hn : n < 4) : QI xk xb r (comQ q n) ∧ (comQ q n).s.hk = (comH q n).1 ∧ (comQ q n).s.hb = (comH q n).2 := by
  unfold comQ comH
  cases hon : q.o n
  · exact ⟨h.closed hn q.s h.inv rfl rfl rfl (by simp [wt, hon]) (by simp [wt, hon]) (fun _ _ _ _ => rfl), rfl, rfl⟩
  · obtain ⟨l1, l2, l3⟩ := h.look n hn hon
    have e : (q.s.com (q.t n)).2 = { q.s with hk := q.s.hk + max (q.k n) 0, hb := q.s.hb + max (q.b n) 0, kk := q.s.kk - max (q.k n) 0, kb := q.s.kb - max (q.b n) 0, l := delKV q.s.l (q.t n) } := by unfold St.com; rw [l1]
    have hinv : Inv (comS q.s (q.t n) (q.u n) (q.v n)) := (h.inv.com _).pay (by rw [l2]; omega) (by rw [l3]; omega)
    simp only [if_true]
    have key : ∀ s', s' = comS q.s (q.t n) (q.u n) (q.v n) → s'.xk = q.s.xk ∧ s'.xb = q.s.xb ∧ s'.last = q.s.last ∧ s'.kk = q.s.kk - max (q.k n) 0 ∧ s'.kb = q.s.kb - max (q.b n) 0 ∧ s'.l = delKV q.s.l (q.t n) ∧
        (s'.hk, s'.hb) = (if q.s.hk + max (q.k n) 0 ≥ max (-q.k n) 0 ∧ q.s.hb + max (q.b n) 0 ≥ max (-q.b n) 0 then (q.s.hk + max (q.k n) 0 - max (-q.k n) 0, q.s.hb + max (q.b n) 0 - max (-q.b n) 0) else (q.s.hk + max (q.k n) 0, q.s.hb + max (q.b n) 0)) := by
      rintro s' rfl
      unfold comS
      rw [e, l2, l3]
      unfold St.pay
      simp only
      by_cases hc : max (-q.k n) 0 ≤ q.s.hk + max (q.k n) 0 ∧ max (-q.b n) 0 ≤ q.s.hb + max (q.b n) 0
      · rw [if_pos hc, if_pos (show _ ∧ _ from hc)]
        exact ⟨rfl, rfl, rfl, rfl, rfl, rfl, rfl⟩
      · rw [if_neg hc, if_neg (show ¬ (_ ∧ _) from hc)]
        exact ⟨rfl, rfl, rfl, rfl, rfl, rfl, rfl⟩
    obtain ⟨k1, k2, k3, k4, k5, k6, k7⟩ := key _ rfl
    refine ⟨h.closed hn _ hinv k1 k2 k3 (by rw [k4]; simp [wt, hon]) (by rw [k5]; simp [wt, hon]) (fun i hi hin hoi => ?_), congrArg Prod.fst k7, congrArg Prod.snd k7⟩
    rw [k6]
    exact lookup_del (h.dist i n hi hn hin hoi hon)

/-- Gate n asks for k, b: whether it fits; what is behind it. -/
def fitQ (q : Qs) (n : Nat) (k b : Int) : Bool := decide (q.s.hk + (max k 0 + sum4 (wt (set q.o n false) q.k) 4) ≤ q.s.xk) && decide (q.s.hb + (max b 0 + sum4 (wt (set q.o n false) q.b) 4) ≤ q.s.xb)
def resQ (q : Qs) (n : Nat) (k b : Int) : Qs :=
  let s1 := (refQ q n).s
  let r := s1.res (max k 0) (max b 0)
  if r.2.1 = 0 then ⟨r.2.2, set q.o n true, set q.k n k, set q.b n b, set q.t n r.1, set q.u n (max (-k) 0), set q.v n (max (-b) 0)⟩
  else ⟨r.2.2, set q.o n false, set q.k n k, set q.b n b, q.t, q.u, q.v⟩

theorem QI.res {xk xb : Int} {r n : Nat} {q : Qs} {k b : Int} (h : QI xk xb r q) (hn : n < 4) (hk : -128 ≤ k ∧ k ≤ 127) (hb : -128 ≤ b ∧ b ≤ 127) :
    QI xk xb (r + 1) (resQ q n k b) ∧ (resQ q n k b).s.hk = q.s.hk ∧ (resQ q n k b).s.hb = q.s.hb ∧ ((refQ q n).s.res (max k 0) (max b 0)).2.1 = (if fitQ q n k b then 0 else 10) ∧ (resQ q n k b).o n = fitQ q n k b := by
  obtain ⟨h1, e1, e2⟩ := h.ref hn
  have hkk : (refQ q n).s.kk = sum4 (wt (set q.o n false) q.k) 4 := h1.sk
  have hkb : (refQ q n).s.kb = sum4 (wt (set q.o n false) q.b) 4 := h1.sb
  have hxk : (refQ q n).s.xk = q.s.xk := h1.lk.trans h.lk.symm
  have hxb : (refQ q n).s.xb = q.s.xb := h1.lb.trans h.lb.symm
  have hfit : fitQ q n k b = true ↔ (refQ q n).s.fits (max k 0) (max b 0) := by
    unfold fitQ St.fits
    rw [← hkk, ← hkb, ← hxk, ← hxb, ← e1, ← e2, Bool.and_eq_true, decide_eq_true_eq, decide_eq_true_eq]
    omega
  have hsn : ∀ i, set q.o n false i = true → i ≠ n := fun i hi hin => by
    subst hin
    simp [set] at hi
  unfold resQ
  simp only
  by_cases hf : (refQ q n).s.fits (max k 0) (max b 0)
  · have hfq : fitQ q n k b = true := hfit.2 hf
    have e : (refQ q n).s.res (max k 0) (max b 0) = ((refQ q n).s.last + 1, 0, { (refQ q n).s with kk := (refQ q n).s.kk + max k 0, kb := (refQ q n).s.kb + max b 0, last := (refQ q n).s.last + 1, l := (refQ q n).s.l ++ [((refQ q n).s.last + 1, max k 0, max b 0)] }) := if_pos hf
    have hI2 := h1.inv.res (k := max k 0) (y := max b 0) (by omega) (by omega)
    rw [e] at hI2 ⊢
    rw [hfq]
    simp only [if_true]
    refine ⟨⟨hI2, hxk.trans h.lk, hxb.trans h.lb, by have := h1.last; simp only; omega, ?_, ?_, fun i hi hoi => ?_, fun i j hi hj hij hoi hoj => ?_, fun i hi => ?_, fun i hi => ?_⟩, e1, e2, by simp [set]⟩
    · show _ = sum4 (wt (set q.o n true) (set q.k n k)) 4
      rw [sum4_put hn, ← hkk]; simp
    · show _ = sum4 (wt (set q.o n true) (set q.b n b)) 4
      rw [sum4_put hn, ← hkb]; simp
    · by_cases hin : i = n
      · subst hin
        simp only [set, if_true]
        refine ⟨?_, trivial, trivial⟩
        rw [List.lookup_append, h1.inv.fresh]
        simp
      · have hoi' : set q.o n false i = true := by simpa [set, hin] using hoi
        obtain ⟨g1, g2, g3⟩ := h1.look i hi hoi'
        simp only [set, if_neg hin]
        exact ⟨lookup_app g1, g2, g3⟩
    · have fresh : ∀ i, i < 4 → i ≠ n → set q.o n true i = true → q.t i ≠ (refQ q n).s.last + 1 := fun i hi hin ho he => by
        have ho' : set q.o n false i = true := by simpa [set, hin] using ho
        have g1 := (h1.look i hi ho').1
        have := h1.inv.fresh
        rw [← he] at this
        have g1' : (refQ q n).s.l.lookup (q.t i) = _ := g1
        rw [this] at g1'
        cases g1'
      show set q.t n _ i ≠ set q.t n _ j
      by_cases hin : i = n
      · subst hin
        have hji : j ≠ i := fun e => hij e.symm
        simp only [set, if_true, if_neg hji]
        exact fun e => fresh j hj hji hoj e.symm
      · by_cases hjn : j = n
        · subst hjn
          simp only [set, if_true, if_neg hin]
          exact fresh i hi hin hoi
        · simp only [set, if_neg hin, if_neg hjn]
          exact h1.dist i j hi hj hij (show set q.o n false i = true by simpa [set, hin] using hoi) (show set q.o n false j = true by simpa [set, hjn] using hoj)
    · show -128 ≤ set q.k n k i ∧ set q.k n k i ≤ 127
      unfold set
      split
      · exact hk
      · exact h.rk i hi
    · show -128 ≤ set q.b n b i ∧ set q.b n b i ≤ 127
      unfold set
      split
      · exact hb
      · exact h.rb i hi
  · have hfq : fitQ q n k b = false := by
      cases hc : fitQ q n k b
      · rfl
      · exact absurd (hfit.1 hc) hf
    have e : (refQ q n).s.res (max k 0) (max b 0) = (0, 10, (refQ q n).s) := if_neg hf
    rw [e, hfq]
    simp only [Bool.false_eq_true, if_false, show ((10 : Int) = 0) = False by simp]
    refine ⟨⟨h1.inv, hxk.trans h.lk, hxb.trans h.lb, by have := h1.last; simp only; omega, ?_, ?_, fun i hi hoi => ?_, fun i j hi hj hij hoi hoj => h1.dist i j hi hj hij hoi hoj, fun i hi => ?_, fun i hi => ?_⟩, e1, e2, trivial, by simp [set]⟩
    · show _ = sum4 (wt (set q.o n false) (set q.k n k)) 4
      rw [sum4_put hn, ← hkk]; simp
    · show _ = sum4 (wt (set q.o n false) (set q.b n b)) 4
      rw [sum4_put hn, ← hkb]; simp
    · have hin := hsn i hoi
      have g := h1.look i hi hoi
      simp only [set, if_neg hin]
      exact g
    · show -128 ≤ set q.k n k i ∧ set q.k n k i ≤ 127
      unfold set
      split
      · exact hk
      · exact h.rk i hi
    · show -128 ≤ set q.b n b i ∧ set q.b n b i ≤ 127
      unfold set
      split
      · exact hb
      · exact h.rb i hi

/-- The start: all gates closed. -/
def Qs.start (xk xb : Int) : Qs := ⟨St.new xk xb, fun _ => false, fun _ => 0, fun _ => 0, fun _ => 0, fun _ => 0, fun _ => 0⟩
theorem QI.start {xk xb : Int} (h1 : 0 ≤ xk ∧ xk ≤ 255) (h2 : 0 ≤ xb ∧ xb ≤ 255) : QI xk xb 0 (Qs.start xk xb) :=
  ⟨Inv.new h1.1 (by unfold big; omega) h2.1 (by unfold big; omega), rfl, rfl, Int.le_refl _, rfl, rfl, fun i _ h => (by cases h), fun i _ _ _ _ h => (by cases h), fun _ _ => (show (-128 : Int) ≤ 0 ∧ (0 : Int) ≤ 127 by omega), fun _ _ => (show (-128 : Int) ≤ 0 ∧ (0 : Int) ≤ 127 by omega)⟩
end Go.Burg.Quota
