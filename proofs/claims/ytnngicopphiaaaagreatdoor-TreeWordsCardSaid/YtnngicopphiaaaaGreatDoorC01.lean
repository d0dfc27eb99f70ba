/- Part 1 of 51 of a proof: lemmas on the functions that it reaches. -/
import Derived.Orders
import Derived.Tactics
namespace Go.Burg
open Go
def Does (P : Program) (o : Oper) (ρ : Operand → Value) (w : World) (G : Value → World → Prop) : Prop :=
  match (execOp ρ o).run P w with
  | .ok (.value v) w' => G v w'
  | .ok .skip w' => G undef w'
  | .ok (.enter f args) w' => Calls P f args w' fun e w'' => ∃ v, e = .returned v ∧ G v w''
  | .ok (.row row args) w' => Rows P row args w' G
  | _ => False
def DoesG (P : Program) (ops : Array Oper) (o : Oper) (a : Act) (w : World) (G : Value → World → Prop) : Prop :=
  if Region.wanted o (yielded ops a.tmps) = true then Does P o a.eval w G else G undef w
theorem Does.upon {P : Program} {o : Oper} {a : Act} {w : World} {G : Value → World → Prop} {K : Act → World → Prop} {Q : Exit → Act → World → Prop}
    (h : Does P o a.eval w G) (hk : ∀ v w', G v w' → K (a.put o.dst v) w') : o.wp P a w K Q := by
  unfold Does at h
  unfold Oper.wp
  generalize (execOp a.eval o).run P w = r at *
  cases r with
  | ok n w' =>
    cases n <;> simp only [Oper.upon] at h ⊢ <;> first | exact hk _ _ h | skip
    case enter f args =>
      refine Calls.mono h fun e w'' he => ?_
      obtain ⟨v, rfl, hv⟩ := he
      exact hk _ _ hv
    case row row args => exact Rows.mono h fun v w'' hv => hk _ _ hv
    all_goals exact h.elim
  | halt x w' => exact h.elim
def dsts : Nat → List Oper → List (Nat × Tmp)
  | _, [] => []
  | k, o :: l => match o.dst with
    | some d => (k, d) :: dsts (k + 1) l
    | none => dsts (k + 1) l
def fill (a : Act) : List (Nat × Tmp) → (Nat → Value) → Act
  | [], _ => a
  | (j, d) :: l, xs => fill (a.put (some d) (xs j)) l xs
def fillIf (D : Nat → Bool) (a : Act) : List (Nat × Tmp) → (Nat → Value) → Act
  | [], _ => a
  | (j, d) :: l, xs => fillIf D (if D j then a.put (some d) (xs j) else a) l xs
def waits (o : Oper) : List Nat := (o.after.toList.filter fun e => Region.binds .any e).map (·.on)
def looksOk (ops : Array Oper) (ds : List (Nat × Tmp)) (i : Nat) (o : Oper) : Bool :=
  (o.looksAt ops).all (fun t => ds.all fun (j, d) => d != t || (waits o).contains j) && (waits o).all (· < i) &&
  (match o.op with | .select .. => false | _ => true)
def goodOps (ops : Array Oper) (ds : List (Nat × Tmp)) : Nat → List Oper → Bool
  | _, [] => true
  | k, o :: l => looksOk ops ds k o && goodOps ops ds (k + 1) l
def distinct : List (Nat × Tmp) → Bool
  | [] => true
  | (j, d) :: l => l.all (fun (j', d') => d' != d && j' != j) && distinct l
def tailOk (l : List Oper) (i : Nat) : Bool := (List.range i).all fun j => (List.range (i + 1)).any fun k => decide (j < k) && (((l[k]?).map waits).getD []).contains j
def good (m : Nat) (l : List Oper) : Bool :=
  distinct (dsts 0 (l.take m)) && goodOps l.toArray (dsts 0 (l.take m)) 0 (l.take m) && decide (m ≤ l.length) &&
  (List.range l.length).all (fun i => (((l[i]?).map waits).getD []).all (· < i) && (decide (i < m) || tailOk l i))
theorem goodOps_spec {ops : Array Oper} {ds : List (Nat × Tmp)} : ∀ (l : List Oper) (k : Nat), goodOps ops ds k l = true → ∀ i o, l[i]? = some o → looksOk ops ds (k + i) o = true := by
  intro l
  induction l with
  | nil => intro k _ i o h; simp at h
  | cons x l ih =>
    intro k h i o hi
    simp only [goodOps, Bool.and_eq_true] at h
    cases i with
    | zero => simp at hi; subst hi; exact h.1
    | succ i => have := ih (k + 1) h.2 i o (by simpa using hi); rw [show k + (i + 1) = k + 1 + i from by omega]; exact this
theorem mem_dsts : ∀ (l : List Oper) (k j : Nat) (d : Tmp), (j, d) ∈ dsts k l ↔ ∃ i o, l[i]? = some o ∧ j = k + i ∧ o.dst = some d := by
  intro l
  induction l with
  | nil => intro k j d; simp [dsts]
  | cons x l ih =>
    intro k j d
    have key : (∃ i o, (x :: l)[i]? = some o ∧ j = k + i ∧ o.dst = some d) ↔ (j = k ∧ x.dst = some d) ∨ ∃ i o, l[i]? = some o ∧ j = k + 1 + i ∧ o.dst = some d := by
      constructor
      · rintro ⟨i, o, hi, hj, hd⟩
        cases i with
        | zero => simp at hi; subst hi; exact .inl ⟨by omega, hd⟩
        | succ i => exact .inr ⟨i, o, by simpa using hi, by omega, hd⟩
      · rintro (⟨hj, hd⟩ | ⟨i, o, hi, hj, hd⟩)
        · exact ⟨0, x, by simp, by omega, hd⟩
        · exact ⟨i + 1, o, by simpa using hi, by omega, hd⟩
    rw [key, ← ih]
    simp only [dsts]
    cases hx : x.dst with
    | none => simp
    | some d' => simp [eq_comm]
theorem fillIf_put (D : Nat → Bool) (xs : Nat → Value) : ∀ (ds : List (Nat × Tmp)) (a : Act) (d : Tmp) (v : Value), (∀ p ∈ ds, p.2 ≠ d) → fillIf D (a.put (some d) v) ds xs = (fillIf D a ds xs).put (some d) v := by
  intro ds
  induction ds with
  | nil => intro a d v _; rfl
  | cons p ds ih =>
    intro a d v h
    obtain ⟨j, e⟩ := p
    simp only [fillIf]
    have he : e ≠ d := h (j, e) (by simp)
    by_cases hD : D j = true
    · simp only [hD, if_true]
      rw [Act.put_comm a v (xs j) (fun d' hd' => by cases hd'; exact fun hh => he (by cases hh; rfl))]
      exact ih _ _ _ (fun p hp => h p (by simp [hp]))
    · simp only [hD, if_false, Bool.false_eq_true]
      exact ih _ _ _ (fun p hp => h p (by simp [hp]))
theorem fillIf_congr {D D' : Nat → Bool} {xs xs' : Nat → Value} : ∀ (ds : List (Nat × Tmp)) (a : Act), (∀ p ∈ ds, D p.1 = D' p.1 ∧ (D p.1 = true → xs p.1 = xs' p.1)) → fillIf D a ds xs = fillIf D' a ds xs' := by
  intro ds
  induction ds with
  | nil => intro a _; rfl
  | cons p ds ih =>
    intro a h
    obtain ⟨j, e⟩ := p
    have h1 := h (j, e) (by simp)
    simp only [fillIf]
    rw [← h1.1]
    by_cases hD : D j = true
    · simp only [hD, if_true]
      rw [h1.2 hD]
      exact ih _ (fun p hp => h p (by simp [hp]))
    · simp only [hD, if_false, Bool.false_eq_true]
      exact ih _ (fun p hp => h p (by simp [hp]))
theorem fillIf_all {D : Nat → Bool} {xs : Nat → Value} : ∀ (ds : List (Nat × Tmp)) (a : Act), (∀ p ∈ ds, D p.1 = true) → fillIf D a ds xs = fill a ds xs := by
  intro ds
  induction ds with
  | nil => intro a _; rfl
  | cons p ds ih =>
    intro a h
    obtain ⟨j, e⟩ := p
    simp only [fillIf, fill]
    rw [h (j, e) (by simp)]
    simp only [if_true]
    exact ih _ (fun p hp => h p (by simp [hp]))
theorem distinct_spec {ds : List (Nat × Tmp)} (h : distinct ds = true) : ds.Pairwise (fun p q => q.2 ≠ p.2 ∧ q.1 ≠ p.1) := by
  induction ds with
  | nil => exact .nil
  | cons p ds ih =>
    obtain ⟨j, d⟩ := p
    simp only [distinct, Bool.and_eq_true, List.all_eq_true] at h
    refine .cons (fun q hq => ?_) (ih h.2)
    have := h.1 q hq
    simpa using this
theorem fillIf_set {D : Nat → Bool} {xs : Nat → Value} (i : Nat) (v : Value) : ∀ (ds : List (Nat × Tmp)) (a : Act) (d : Tmp), ds.Pairwise (fun p q => q.2 ≠ p.2 ∧ q.1 ≠ p.1) → (i, d) ∈ ds → D i = false →
    fillIf (fun j => D j || j == i) a ds (fun j => if j = i then v else xs j) = (fillIf D a ds xs).put (some d) v := by
  intro ds
  induction ds with
  | nil => intro a d _ h; simp at h
  | cons p ds ih =>
    intro a d hp hmem hD
    obtain ⟨j, e⟩ := p
    cases hp with
    | cons hhd htl =>
    by_cases hji : j = i
    · subst hji
      have hde : d = e := by
        rcases List.mem_cons.1 hmem with h | h
        · cases h; rfl
        · exact absurd rfl (hhd _ h).2
      subst hde
      simp only [fillIf, hD, Bool.false_or, beq_self_eq_true, if_true, Bool.false_eq_true, if_false]
      rw [← fillIf_put D xs ds a d v (fun q hq => (hhd q hq).1)]
      refine fillIf_congr ds _ fun q hq => ?_
      have hne : q.1 ≠ j := (hhd q hq).2
      simp [hne]
    · have hmem' : (i, d) ∈ ds := by
        rcases List.mem_cons.1 hmem with h | h
        · cases h; exact absurd rfl hji
        · exact h
      simp only [fillIf, hji, beq_eq_false_iff_ne.2 hji, Bool.or_false, if_false]
      exact ih _ d htl hmem' hD
theorem eval_fillIf {D : Nat → Bool} {xs : Nat → Value} (t : Operand) : ∀ (ds : List (Nat × Tmp)) (a : Act), (∀ p ∈ ds, t = .tmp p.2 → D p.1 = true) → (fillIf D a ds xs).eval t = (fill a ds xs).eval t := by
  intro ds a h
  have : ∀ (ds : List (Nat × Tmp)) (a b : Act), a.eval t = b.eval t → a.tmps.size = b.tmps.size → (∀ p ∈ ds, t = .tmp p.2 → D p.1 = true) → (fillIf D a ds xs).eval t = (fill b ds xs).eval t := by
    intro ds
    induction ds with
    | nil => intro a b h _ _; exact h
    | cons p ds ih =>
      intro a b hab hsz h
      obtain ⟨j, e⟩ := p
      simp only [fillIf, fill]
      refine ih _ _ ?_ ?_ (fun p hp => h p (by simp [hp]))
      · by_cases hte : t = .tmp e
        · rw [h (j, e) (by simp) hte]
          subst hte
          simp only [if_true, Act.eval, Act.put]
          by_cases hlt : e < a.tmps.size
          · have hlt' : e < b.tmps.size := hsz ▸ hlt
            simp [hlt, hlt']
          · have hlt' : ¬ e < b.tmps.size := hsz ▸ hlt
            simp [hlt, hlt']
        · rw [Act.eval_put (fun d hd he => by cases hd; exact hte he)]
          split
          · rw [Act.eval_put (fun d hd he => by cases hd; exact hte he)]; exact hab
          · exact hab
      · split <;> simp [Act.put, hsz]
  exact this ds a a rfl rfl h
theorem yielded_eval {ops : Array Oper} {a b : Act} {g : Nat} (h : ∀ d, (ops[g]?).bind (·.dst) = some d → a.eval (.tmp d) = b.eval (.tmp d)) : yielded ops a.tmps g = yielded ops b.tmps g := by
  unfold yielded
  cases hd : (ops[g]?).bind (·.dst) with
  | none => rfl
  | some d =>
    have := h d hd
    simp only [Act.eval] at this
    have e3 : a.tmps[d]?.getD undef = b.tmps[d]?.getD undef := by simpa using this
    cases hx : a.tmps[d]? <;> cases hy : b.tmps[d]? <;> simp only [hx, hy, Option.getD_none, Option.getD_some] at e3
    · simp [hx, hy]
    · simp [hx, hy, ← e3, undef]
    · simp [hx, hy, e3, undef]
    · simp [hx, hy, e3]
theorem waits_mem {o : Oper} {j : Nat} : j ∈ waits o ↔ ∃ e ∈ o.after, Region.binds .any e = true ∧ e.on = j := by
  simp only [waits, List.mem_map, List.mem_filter, Array.mem_toList_iff]
  constructor
  · rintro ⟨e, ⟨h1, h2⟩, h3⟩; exact ⟨e, h1, h2, h3⟩
  · rintro ⟨e, h1, h2, h3⟩; exact ⟨e, ⟨h1, h2⟩, h3⟩
def left (listed : Array Bool) : Nat := listed.toList.countP (fun b => !b)
theorem left_set {listed : Array Bool} {i : Nat} (h : listed.getD i true = false) : left (listed.setIfInBounds i true) + 1 = left listed := by
  have hlt : i < listed.size := by
    rcases Nat.lt_or_ge i listed.size with h' | h'
    · exact h'
    · simp [Array.getElem?_eq_none h'] at h
  obtain ⟨l⟩ := listed
  simp only [left, List.setIfInBounds_toArray] at *
  have hi : l[i]? = some false := by
    simp at hlt
    simp [hlt] at h ⊢
    exact h
  clear hlt h
  induction l generalizing i with
  | nil => simp at hi
  | cons x l ih =>
    cases i with
    | zero => simp at hi; subst hi; simp
    | succ i =>
      have := ih (i := i) (by simpa using hi)
      cases x <;> simp at * <;> omega
theorem left_zero {listed : Array Bool} (h : left listed = 0) (i : Nat) (hi : i < listed.size) : listed.getD i false = true := by
  obtain ⟨l⟩ := listed
  simp only [left, List.countP_eq_zero] at h
  simp at hi
  have := h l[i] (List.getElem_mem _)
  simpa [hi] using this
theorem exists_unlisted {listed : Array Bool} (h : left listed ≠ 0) : ∃ i, listed.getD i true = false := by
  obtain ⟨l⟩ := listed
  simp only [left] at h
  have h1 : 0 < l.countP (fun b => !b) := by omega
  obtain ⟨b, hb, hb'⟩ := List.countP_pos_iff.1 h1
  obtain ⟨i, hi, rfl⟩ := List.getElem_of_mem hb
  exact ⟨i, by simpa [hi] using hb'⟩
theorem least_unlisted {listed : Array Bool} (h : left listed ≠ 0) : ∃ i, listed.getD i true = false ∧ ∀ j < i, listed.getD j true = true := by
  obtain ⟨i, hi⟩ := exists_unlisted h
  induction i using Nat.strongRecOn with
  | _ i ih =>
    by_cases hall : ∀ j < i, listed.getD j true = true
    · exact ⟨i, hi, hall⟩
    · have : ∃ j, j < i ∧ listed.getD j true = false := by
        apply Classical.byContradiction
        intro hn
        exact hall fun j hj => by
          cases hb : listed.getD j true with
          | true => rfl
          | false => exact absurd ⟨j, hj, hb⟩ hn
      obtain ⟨j, hj, hb⟩ := this
      exact ih j hj hb
section
variable {P : Program} {l : List Oper} {Q : Exit → Act → World → Prop} {a0 : Act}
theorem tailOk_spec {l : List Oper} {i : Nat} (h : tailOk l i = true) (D : Nat → Bool) (hcl : ∀ k o, l[k]? = some o → (D k = true ∨ k = i) → ∀ j ∈ waits o, D j = true) : ∀ j, j < i → D j = true := by
  have main : ∀ n j, i - j ≤ n → j < i → D j = true := by
    intro n
    induction n with
    | zero => intro j h1 h2; omega
    | succ n ih =>
      intro j h1 h2
      simp only [tailOk, List.all_eq_true, List.mem_range] at h
      have h3 := h j h2
      simp only [List.any_eq_true, List.mem_range, Bool.and_eq_true, decide_eq_true_eq] at h3
      obtain ⟨k, hk, hjk, hc⟩ := h3
      cases ho : l[k]? with
      | none => rw [ho] at hc; simp at hc
      | some o =>
        rw [ho] at hc
        have hm : j ∈ waits o := by simpa using hc
        refine hcl k o ho ?_ j hm
        by_cases hki : k = i
        · exact .inr hki
        · exact .inl (ih k (by omega) (by omega))
  exact fun j hj => main (i - j) j (Nat.le_refl _) hj
theorem wp_region_inv {id : Nat} {w0 : World} (m : Nat) (hm : P.follows .mixedOrders = true) (hg : good m l = true)
    (V : Nat → Value → World → Prop) (I : (Nat → Bool) → World → Prop) (h0 : I (fun _ => false) w0.drew)
    (hs : ∀ i o, i < m → l[i]? = some o → ∀ (D : Nat → Bool) (xs : Nat → Value) (w : World), D i = false → (∀ j ∈ waits o, D j = true) → (∀ j, D j = true → V j (xs j) w) → I D w →
      DoesG P l.toArray o (fill a0 (dsts 0 (l.take m)) xs) w fun v w' => V i v w' ∧ (∀ j, D j = true → V j (xs j) w') ∧ I (fun j => D j || j == i) w')
    (hend : ∀ (D : Nat → Bool) (xs : Nat → Value) (w : World), (∀ j, j < m → D j = true) → (∀ j, j < m → V j (xs j) w) → I D w → wpList P l.toArray Q (l.drop m) (fill a0 (dsts 0 (l.take m)) xs) w) :
    (Code.region id l.toArray true).wp P Q a0 w0 := by
  simp only [good, Bool.and_eq_true, decide_eq_true_eq, List.all_eq_true, List.mem_range] at hg
  obtain ⟨⟨⟨hg1, hg2⟩, hml⟩, hg4⟩ := hg
  have hdis := distinct_spec hg1
  have htk : ∀ i, i < m → (l.take m)[i]? = l[i]? := fun i hi => by simp [hi]
  have hok : ∀ i o, i < m → l[i]? = some o → looksOk l.toArray (dsts 0 (l.take m)) i o = true := fun i o hi h => by simpa using goodOps_spec (l.take m) 0 hg2 i o (by rw [htk i hi]; exact h)
  have hwlt : ∀ i o, l[i]? = some o → ∀ j ∈ waits o, j < i := fun i o ho j hj => by
    have hlt := (List.getElem?_eq_some_iff.1 ho).1
    have := (hg4 i hlt).1
    rw [ho] at this
    simpa using this j (by simpa using hj)
  have htail : ∀ i, i < l.length → m ≤ i → tailOk l i = true := fun i hi hmi => by
    have := (hg4 i hi).2
    rcases Bool.or_eq_true_iff.1 this with h | h
    · simp at h; omega
    · exact h
  refine wp_region_any hm ?_
  -- the row behind number m
  have row : ∀ (fuel : Nat) (listed : Array Bool) (a : Act) (w : World) (k : Nat), listed.size = l.length → k + fuel = l.length → m ≤ k → (∀ j, j < k → listed.getD j false = true) → (∀ j, k ≤ j → listed.getD j false = false) →
      wpList P l.toArray Q (l.drop k) a w → wpAny P .any l.toArray Q fuel listed a w := by
    intro fuel
    induction fuel with
    | zero =>
      intro listed a w k hsz hk hmk hlo hhi h
      have hnil : Region.ready .any l.toArray listed = [] := by
        cases hr : Region.ready .any l.toArray listed with
        | nil => rfl
        | cons i r =>
          have hi : i ∈ Region.ready .any l.toArray listed := by rw [hr]; simp
          obtain ⟨h1, o, ho, _⟩ := mem_ready.1 hi
          have hlt : i < l.length := by
            have := (Array.getElem?_eq_some_iff.1 ho).1
            simpa using this
          have h2 := hlo i (by omega)
          have hlt' : i < listed.size := hsz ▸ hlt
          simp [hlt'] at h1 h2
          rw [h1] at h2; cases h2
      refine ⟨hnil, ?_⟩
      rw [List.drop_eq_nil_of_le (by omega)] at h
      exact h
    | succ fuel ih =>
      intro listed a w k hsz hk hmk hlo hhi h
      have hkl : k < l.length := by omega
      have honly : ∀ i ∈ Region.ready .any l.toArray listed, i = k := fun i hi => by
        obtain ⟨h1, o, ho, hall⟩ := mem_ready.1 hi
        have hlt : i < l.length := by
          have := (Array.getElem?_eq_some_iff.1 ho).1
          simpa using this
        have hlt' : i < listed.size := hsz ▸ hlt
        have hun : listed.getD i false = false := by simpa [hlt'] using h1
        have hik : k ≤ i := by
          rcases Nat.lt_or_ge i k with hh | hh
          · rw [hlo i hh] at hun; cases hun
          · exact hh
        have hD := tailOk_spec (htail i hlt (by omega)) (fun j => listed.getD j false) (fun k' o' hk' hor j hj => by
          rcases hor with hor | rfl
          · have hkk : k' < k := by
              rcases Nat.lt_or_ge k' k with hh | hh
              · exact hh
              · have h7 := hhi k' hh
                have h8 : listed.getD k' false = true := hor
                rw [h7] at h8; cases h8
            have := hwlt k' o' hk' j hj
            exact hlo j (by omega)
          · have ho2 : l[k']? = some o := by simpa using ho
            rw [ho2] at hk'
            cases hk'
            obtain ⟨e, he, hb, rfl⟩ := waits_mem.1 hj
            exact hall e he hb)
        rcases Nat.lt_or_ge k i with hh | hh
        · have h5 := hD k hh
          have h6 := hhi k (Nat.le_refl _)
          have h8 : listed.getD k false = true := h5
          rw [h6] at h8; cases h8
        · omega
      have hkf : listed.getD k true = false := by
        have h6 := hhi k (Nat.le_refl _)
        have hlt' : k < listed.size := hsz ▸ hkl
        simpa [hlt'] using h6
      have hkr : k ∈ Region.ready .any l.toArray listed := mem_ready.2 ⟨hkf, l[k], by simp [hkl], fun e he hb =>
        hlo e.on (hwlt k l[k] (by simp [hkl]) e.on (waits_mem.2 ⟨e, he, hb, rfl⟩))⟩
      refine ⟨fun hr => (by rw [hr] at hkr; cases hkr), fun i hi => ?_⟩
      obtain rfl := honly i hi
      rw [List.drop_eq_getElem_cons hkl] at h
      have hih : ∀ a w, wpList P l.toArray Q (l.drop (i + 1)) a w → wpAny P .any l.toArray Q fuel (listed.setIfInBounds i true) a w := fun a w h' =>
        ih _ a w (i + 1) (by simpa using hsz) (by omega) (by omega) (fun j hj => by
          have hlt' : i < listed.size := hsz ▸ hkl
          by_cases hji : j = i
          · subst hji; simp [hlt']
          · have hij : i ≠ j := fun h => hji h.symm
            simpa [Array.getElem?_setIfInBounds_ne hij] using hlo j (by omega)) (fun j hj => by
          have hij : i ≠ j := by omega
          simpa [Array.getElem?_setIfInBounds_ne hij] using hhi j (by omega)) h'
      unfold wpOp
      have ho : l.toArray[i]? = some l[i] := by simp [hkl]
      simp only [ho]
      unfold wpList at h
      split
      · rename_i hw
        rw [if_pos hw] at h
        exact h.imp (Oper.wp_mono hih) (fun x => x)
      · rename_i hw
        rw [if_neg hw] at h
        exact hih _ _ h
  have main : ∀ (fuel : Nat) (listed : Array Bool) (xs : Nat → Value) (w : World), listed.size = l.length → left listed = fuel →
      (∀ j, m ≤ j → listed.getD j false = false) → (∀ k o, l[k]? = some o → listed.getD k false = true → ∀ j ∈ waits o, listed.getD j false = true) →
      (∀ j, listed.getD j false = true → V j (xs j) w) → I (fun j => listed.getD j false) w →
      wpAny P .any l.toArray Q fuel listed (fillIf (fun j => listed.getD j false) a0 (dsts 0 (l.take m)) xs) w := by
    intro fuel
    induction fuel with
    | zero =>
      intro listed xs w hsz hl hhi hcl hV hI
      have hall : ∀ j, j < l.length → listed.getD j false = true := fun j hj => left_zero hl j (hsz ▸ hj)
      have hmeq : m = l.length := by
        rcases Nat.lt_or_ge m l.length with h | h
        · have h1 := hall m h
          rw [hhi m (Nat.le_refl _)] at h1; cases h1
        · omega
      refine row 0 listed _ w l.length hsz (by omega) (by omega) hall (fun j hj => hhi j (by omega)) ?_
      rw [fillIf_all _ _ (fun p hp => by
        obtain ⟨i, o, hi, hj, _⟩ := (mem_dsts (l.take m) 0 p.1 p.2).1 hp
        have := (List.getElem?_eq_some_iff.1 hi).1
        simp only [List.length_take] at this
        exact hall p.1 (by omega))]
      have := hend _ xs w (fun j hj => hall j (by omega)) (fun j hj => hV j (hall j (by omega))) hI
      rw [hmeq] at this ⊢
      exact this
    | succ fuel ih =>
      intro listed xs w hsz hl hhi hcl hV hI
      by_cases hfront : ∀ j, j < m → listed.getD j false = true
      · -- all of the first m are done: the row begins
        have hcount : left listed = l.length - m := by
          obtain ⟨lst⟩ := listed
          simp only [left]
          have hsz' : lst.length = l.length := by simpa using hsz
          have e1 : lst = List.replicate m true ++ List.replicate (l.length - m) false := by
            apply List.ext_getElem
            · simp; omega
            · intro i h1 h2
              by_cases him : i < m
              · have := hfront i him
                simp [h1] at this
                simp [him, this]
              · have := hhi i (by omega)
                simp [h1] at this
                rw [List.getElem_append_right (by simpa using him)]
                simp [this]
          rw [e1]
          simp [List.countP_replicate]
        refine row (fuel + 1) listed _ w m hsz (by omega) (Nat.le_refl _) hfront hhi ?_
        rw [fillIf_all _ _ (fun p hp => by
          obtain ⟨i, o, hi, hj, _⟩ := (mem_dsts (l.take m) 0 p.1 p.2).1 hp
          have := (List.getElem?_eq_some_iff.1 hi).1
          simp only [List.length_take] at this
          exact hfront p.1 (by omega))]
        exact hend _ xs w hfront (fun j hj => hV j (hfront j hj)) hI
      refine ⟨fun hr => ?_, fun i hi => ?_⟩
      · exfalso
        obtain ⟨i, hi, hmin⟩ := least_unlisted (listed := listed) (by omega)
        have hlt : i < listed.size := by
          rcases Nat.lt_or_ge i listed.size with h' | h'
          · exact h'
          · simp [Array.getElem?_eq_none h'] at hi
        have hlt2 : i < l.length := hsz ▸ hlt
        have : i ∈ Region.ready .any l.toArray listed := mem_ready.2 ⟨hi, l[i], by simp [hlt2], fun e he hb => by
          have h3 := hwlt i l[i] (by simp [hlt2]) e.on (waits_mem.2 ⟨e, he, hb, rfl⟩)
          have h4 := hmin e.on h3
          have h5 : e.on < listed.size := by omega
          simpa [h5] using h4⟩
        rw [hr] at this
        cases this
      · obtain ⟨hun, o, ho, hall⟩ := mem_ready.1 hi
        have ho' : l[i]? = some o := by simpa using ho
        have hi2 : i < listed.size := by
          rcases Nat.lt_or_ge i listed.size with h' | h'
          · exact h'
          · simp [Array.getElem?_eq_none h'] at hun
        have hDi : listed.getD i false = false := by simpa [hi2] using hun
        have hwait : ∀ j ∈ waits o, listed.getD j false = true := fun j hj => by
          obtain ⟨e, he, hb, rfl⟩ := waits_mem.1 hj
          exact hall e he hb
        have him : i < m := by
          rcases Nat.lt_or_ge i m with h | h
          · exact h
          · exfalso
            have hD := tailOk_spec (htail i (hsz ▸ hi2) h) (fun j => listed.getD j false) (fun k' o' hk' hor j hj => by
              rcases hor with hor | rfl
              · exact hcl k' o' hk' hor j hj
              · rw [ho'] at hk'
                cases hk'
                exact hwait j hj)
            exact hfront fun j hj => hD j (by omega)
        have hlk := hok i o him ho'
        simp only [looksOk, Bool.and_eq_true, List.all_eq_true] at hlk
        have hlooks : ∀ t ∈ o.looksAt l.toArray, ∀ p ∈ dsts 0 (l.take m), t = p.2 → listed.getD p.1 false = true := fun t ht p hp hte => by
          have h1 := hlk.1.1 t ht p hp
          subst hte
          have h2 : p.1 ∈ waits o := by simpa using h1
          exact hwait _ h2
        have hev : ∀ x ∈ o.op.operands, (fillIf (fun j => listed.getD j false) a0 (dsts 0 (l.take m)) xs).eval x = (fill a0 (dsts 0 (l.take m)) xs).eval x := fun x hx =>
          eval_fillIf x _ _ fun p hp hxe => hlooks p.2 (by
            subst hxe
            exact List.mem_append_left _ (List.mem_filterMap.2 ⟨.tmp p.2, by simpa using hx, rfl⟩)) p hp rfl
        have hsel : ∀ cs b, o.op ≠ .select cs b := fun cs b he => by
          have := hlk.2
          rw [he] at this
          cases this
        have hexec := execOp_congr o hsel hev
        have hwant : Region.wanted o (yielded l.toArray (fillIf (fun j => listed.getD j false) a0 (dsts 0 (l.take m)) xs).tmps) = Region.wanted o (yielded l.toArray (fill a0 (dsts 0 (l.take m)) xs).tmps) := by
          unfold Region.wanted
          cases hgd : o.guard with
          | none => rfl
          | some gw =>
            obtain ⟨g, want⟩ := gw
            simp only []
            rw [yielded_eval (fun d hd => eval_fillIf (.tmp d) _ _ fun p hp hpe => hlooks p.2 (by
              refine List.mem_append_right _ ?_
              simp only [hgd]
              have hpd : d = p.2 := by cases hpe; rfl
              rw [hd, hpd]
              simp) p hp rfl)]
        have hstep := hs i o him ho' (fun j => listed.getD j false) xs w hDi hwait hV hI
        have hput : ∀ v w', (V i v w' ∧ (∀ j, listed.getD j false = true → V j (xs j) w') ∧ I (fun j => listed.getD j false || j == i) w') →
            wpAny P .any l.toArray Q fuel (listed.setIfInBounds i true) ((fillIf (fun j => listed.getD j false) a0 (dsts 0 (l.take m)) xs).put o.dst v) w' := by
          rintro v w' ⟨hv, hVs, hI'⟩
          have hD' : (fun j => (listed.setIfInBounds i true).getD j false) = (fun j => listed.getD j false || j == i) := by
            funext j
            by_cases hji : j = i
            · subst hji; simp [hi2]
            · have hij : i ≠ j := fun h => hji h.symm
              simp [Array.getElem?_setIfInBounds_ne hij, hji]
          have hfr : (fillIf (fun j => listed.getD j false) a0 (dsts 0 (l.take m)) xs).put o.dst v = fillIf (fun j => (listed.setIfInBounds i true).getD j false) a0 (dsts 0 (l.take m)) (fun j => if j = i then v else xs j) := by
            rw [hD']
            cases hdst : o.dst with
            | none =>
              simp only [Act.put]
              refine fillIf_congr _ _ fun p hp => ?_
              obtain ⟨i', o', hi', hj', hd'⟩ := (mem_dsts (l.take m) 0 p.1 p.2).1 hp
              have hne : p.1 ≠ i := fun he => by
                have : i' = i := by omega
                subst this
                rw [htk i' him, ho'] at hi'
                cases hi'
                rw [hdst] at hd'
                cases hd'
              simp [hne]
            | some d =>
              exact (fillIf_set i v _ a0 d hdis ((mem_dsts (l.take m) 0 i d).2 ⟨i, o, by rw [htk i him]; exact ho', by omega, hdst⟩) hDi).symm
          rw [hfr]
          have hmono : ∀ j, listed.getD j false = true → (listed.setIfInBounds i true).getD j false = true := fun j hj => getD_set_true hj
          refine ih _ _ _ (by simpa using hsz) (by have := left_set hun; omega) (fun j hj => ?_) (fun k o' hk hlk' j hj => ?_) (fun j hj => ?_) ?_
          · have hij : i ≠ j := by omega
            simpa [Array.getElem?_setIfInBounds_ne hij] using hhi j hj
          · by_cases hki : k = i
            · subst hki
              rw [ho'] at hk; cases hk
              exact hmono j (hwait j hj)
            · have hik : i ≠ k := fun h => hki h.symm
              exact hmono j (hcl k o' hk (by simpa [Array.getElem?_setIfInBounds_ne hik] using hlk') j hj)
          · by_cases hji : j = i
            · subst hji; simpa using hv
            · simp only [hji, if_false]
              refine hVs j ?_
              have hij : i ≠ j := fun h => hji h.symm
              simpa [Array.getElem?_setIfInBounds_ne hij] using hj
          · rw [hD']; exact hI'
        unfold wpOp
        simp only [ho]
        unfold DoesG at hstep
        rw [hwant]
        split
        · rename_i hw
          rw [if_pos hw] at hstep
          refine .inl (Does.upon ?_ hput)
          unfold Does at hstep ⊢
          rw [hexec]
          exact hstep
        · rename_i hw
          rw [if_neg hw] at hstep
          exact hput _ _ hstep
  have hrep : ∀ j, (Array.replicate l.length false).getD j false = false := fun j => by
    by_cases h : j < l.length <;> simp [h]
  have hstart := main l.length (Array.replicate l.length false) (fun _ => undef) w0.drew (by simp) (by simp [left, List.countP_replicate]) (fun j _ => hrep j) (fun k o _ h => by rw [hrep] at h; cases h)
    (fun j hj => by rw [hrep] at hj; cases hj) (by
      have : (fun j => (Array.replicate l.length false).getD j false) = fun _ => false := funext hrep
      rw [this]; exact h0)
  have hfr0 : fillIf (fun j => (Array.replicate l.length false).getD j false) a0 (dsts 0 (l.take m)) (fun _ => undef) = a0 := by
    have : ∀ (ds : List (Nat × Tmp)) (a : Act), fillIf (fun j => (Array.replicate l.length false).getD j false) a ds (fun _ => undef) = a := by
      intro ds
      induction ds with
      | nil => intro a; rfl
      | cons p ds ih =>
        intro a
        obtain ⟨j, d⟩ := p
        simp only [fillIf]
        rw [hrep j]
        exact ih a
    exact this _ _
  rw [hfr0] at hstart
  simpa using hstart
theorem eval_fill_congr {xs xs' : Nat → Value} (t : Operand) : ∀ (ds : List (Nat × Tmp)) (a : Act), (∀ p ∈ ds, t = .tmp p.2 → xs p.1 = xs' p.1) → (fill a ds xs).eval t = (fill a ds xs').eval t := by
  have : ∀ (ds : List (Nat × Tmp)) (a b : Act), a.eval t = b.eval t → a.tmps.size = b.tmps.size → (∀ p ∈ ds, t = .tmp p.2 → xs p.1 = xs' p.1) → (fill a ds xs).eval t = (fill b ds xs').eval t := by
    intro ds
    induction ds with
    | nil => intro a b h _ _; exact h
    | cons p ds ih =>
      intro a b hab hsz h
      obtain ⟨j, e⟩ := p
      simp only [fill]
      refine ih _ _ ?_ (by simp [Act.put, hsz]) (fun p hp => h p (by simp [hp]))
      by_cases hte : t = .tmp e
      · have hx : xs j = xs' j := h (j, e) (by simp) hte
        subst hte
        by_cases hlt : e < a.tmps.size
        · have hlt' : e < b.tmps.size := hsz ▸ hlt
          simp [Act.eval, Act.put, hlt, hlt', hx]
        · have hlt' : ¬ e < b.tmps.size := hsz ▸ hlt
          simp [Act.eval, Act.put, hlt, hlt']
      · rw [Act.eval_put (fun d hd he => by cases hd; exact hte he), Act.eval_put (fun d hd he => by cases hd; exact hte he)]
        exact hab
  exact fun ds a h => this ds a a rfl rfl h
theorem fill_congr {xs xs' : Nat → Value} : ∀ (ds : List (Nat × Tmp)) (a : Act), (∀ p ∈ ds, xs p.1 = xs' p.1) → fill a ds xs = fill a ds xs' := by
  intro ds
  induction ds with
  | nil => intro a _; rfl
  | cons p ds ih =>
    intro a h
    obtain ⟨j, e⟩ := p
    simp only [fill]
    rw [h (j, e) (by simp)]
    exact ih _ (fun p hp => h p (by simp [hp]))
theorem fill_size (xs : Nat → Value) : ∀ (ds : List (Nat × Tmp)) (a : Act), (fill a ds xs).tmps.size = a.tmps.size := by
  intro ds
  induction ds with
  | nil => intro a; rfl
  | cons p ds ih => intro a; obtain ⟨j, e⟩ := p; simp only [fill]; rw [ih]; simp [Act.put]
def Alone (G : Act → World → Prop) : Exit → Act → World → Prop
  | .normal, a, w => G a w
  | _, _, _ => False
theorem Does_of_alone {o : Oper} {ops : Array Oper} {a : Act} {w : World} {G : Value → World → Prop}
    (h : wpList P ops (Alone fun a' w' => a'.defers = a.defers ∧ ∀ v, a' = a.put o.dst v → G v w') [o] a w) : DoesG P ops o a w G := by
  have hdef : ∀ (b : Act) (d : Option Tmp) (v : Value), (b.put d v).defers = b.defers := fun b d v => by cases d <;> rfl
  unfold wpList at h
  unfold DoesG
  split
  · rename_i hw
    rw [if_pos hw] at h
    rcases h with h | ⟨_, a', w', hl⟩
    · unfold Oper.wp at h
      unfold Does
      generalize (execOp a.eval o).run P w = r at *
      cases r with
      | ok n w' =>
        cases n <;> simp only [Oper.upon] at h ⊢
        case value v => exact h.2 v rfl
        case skip => exact h.2 undef rfl
        case defer d =>
          have h1 := h.1
          rw [hdef] at h1
          have h2 := congrArg List.length h1
          simp at h2
        case enter f args =>
          refine Calls.mono h fun e w'' he => ?_
          cases e with
          | returned v => exact ⟨v, rfl, he.2 v rfl⟩
          | panicked c => exact he.elim
          | outgrown => obtain ⟨_, _, he⟩ := he; exact he.elim
        case row row args => exact Rows.mono h fun v w'' hv => hv.2 v rfl
      | halt x w' => cases x <;> simp only [Oper.upon] at h <;> exact h.elim
    · exact hl.elim
  · rename_i hw
    rw [if_neg hw] at h
    exact h.2 undef rfl
def AllOps (F : Oper → Prop) : List Oper → Prop
  | [] => True
  | [o] => F o
  | o :: l => F o ∧ AllOps F l
def dstOf (l : List Oper) (j : Nat) : Nat := ((l[j]?).bind (fun o => o.dst)).getD 0
def AllOpsI (F : Nat → Oper → Prop) : Nat → List Oper → Prop
  | _, [] => True
  | k, [o] => F k o
  | k, o :: l => F k o ∧ AllOpsI F (k + 1) l
theorem AllOpsI_spec {F : Nat → Oper → Prop} : ∀ (l : List Oper) (k : Nat), AllOpsI F k l → ∀ i o, l[i]? = some o → F (k + i) o
  | [], _, _, i, o, h => by simp at h
  | [x], k, hF, i, o, h => by
    cases i with
    | zero => simp at h; subst h; exact hF
    | succ i => simp at h
  | x :: y :: l, k, hF, i, o, h => by
    cases i with
    | zero => simp at h; subst h; exact hF.1
    | succ i =>
      have := AllOpsI_spec (y :: l) (k + 1) hF.2 i o (by simpa using h)
      rw [show k + (i + 1) = k + 1 + i from by omega]
      exact this
end
end Go.Burg
