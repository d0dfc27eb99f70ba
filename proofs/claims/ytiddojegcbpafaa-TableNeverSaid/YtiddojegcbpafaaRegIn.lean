/- A region whose order is open, in a round of a range over a function. -/
import Derived.Test.YtiddojegcbpafaaSeq
import Derived.RangeFuncNested
import Derived.OrdersIn
namespace Go.Burg
open Go

section
variable {P : Program} {l : List Oper} {Q : Exit → Act → World → Prop} {a0 : Act}

/-- Whatever the order. -/
def RegOk (P : Program) (l : List Oper) (Q : Exit → Act → World → Prop) (a0 : Act) (w0 : World) : Prop := wpAny P .any l.toArray Q l.toArray.size (Array.replicate l.toArray.size false) a0 w0.drew

/-- **THE RULE.** V j v w: what is said of the value v of operation j in the world w; I D w: what holds of the world when just the operations of D have been carried out. From number m on the operations stand in a row: they are walked in their order. -/
theorem reg_inv {w0 : World} (m : Nat) (hg : good m l = true)
    (V : Nat → Value → World → Prop) (I : (Nat → Bool) → World → Prop) (h0 : I (fun _ => false) w0.drew)
    (hs : ∀ i o, i < m → l[i]? = some o → ∀ (D : Nat → Bool) (xs : Nat → Value) (w : World), D i = false → (∀ j ∈ waits o, D j = true) → (∀ j, D j = true → V j (xs j) w) → I D w →
      DoesG P l.toArray o (fill a0 (dsts 0 (l.take m)) xs) w fun v w' => V i v w' ∧ (∀ j, D j = true → V j (xs j) w') ∧ I (fun j => D j || j == i) w')
    (hend : ∀ (D : Nat → Bool) (xs : Nat → Value) (w : World), (∀ j, j < m → D j = true) → (∀ j, j < m → V j (xs j) w) → I D w → wpList P l.toArray Q (l.drop m) (fill a0 (dsts 0 (l.take m)) xs) w) :
    RegOk P l Q a0 w0 := by
  simp only [good, Bool.and_eq_true, decide_eq_true_eq, List.all_eq_true, List.mem_range] at hg
  obtain ⟨⟨⟨hg1, hg2⟩, hml⟩, hg4⟩ := hg
  have hdis := distinct_spec hg1
  have htk : ∀ i, i < m → (l.take m)[i]? = l[i]? := fun i hi => by simp [hi]
  have hok : ∀ i o, i < m → l[i]? = some o → looksOk l.toArray (dsts 0 (l.take m)) i o = true := fun i o hi h => by simpa using goodOps_spec (l.take m) 0 hg2 i o (by rw [htk i hi]; exact h)
  have hwlt : ∀ i o, l[i]? = some o → ∀ j ∈ waits o, j < i := fun i o ho j hj => by
    have hlt := (List.getElem?_eq_some_iff.1 ho).1
    have := (hg4 i hlt).1
    rw [ho] at this
    simpa using this j (by simpa using hj)
  have htail : ∀ i, i < l.length → m ≤ i → tailOk l i = true := fun i hi hmi => by
    have := (hg4 i hi).2
    rcases Bool.or_eq_true_iff.1 this with h | h
    · simp at h; omega
    · exact h
  unfold RegOk
  -- the row behind number m
  have row : ∀ (fuel : Nat) (listed : Array Bool) (a : Act) (w : World) (k : Nat), listed.size = l.length → k + fuel = l.length → m ≤ k → (∀ j, j < k → listed.getD j false = true) → (∀ j, k ≤ j → listed.getD j false = false) →
      wpList P l.toArray Q (l.drop k) a w → wpAny P .any l.toArray Q fuel listed a w := by
    intro fuel
    induction fuel with
    | zero =>
      intro listed a w k hsz hk hmk hlo hhi h
      have hnil : Region.ready .any l.toArray listed = [] := by
        cases hr : Region.ready .any l.toArray listed with
        | nil => rfl
        | cons i r =>
          have hi : i ∈ Region.ready .any l.toArray listed := by rw [hr]; simp
          obtain ⟨h1, o, ho, _⟩ := mem_ready.1 hi
          have hlt : i < l.length := by
            have := (Array.getElem?_eq_some_iff.1 ho).1
            simpa using this
          have h2 := hlo i (by omega)
          have hlt' : i < listed.size := hsz ▸ hlt
          simp [hlt'] at h1 h2
          rw [h1] at h2; cases h2
      refine ⟨hnil, ?_⟩
      rw [List.drop_eq_nil_of_le (by omega)] at h
      exact h
    | succ fuel ih =>
      intro listed a w k hsz hk hmk hlo hhi h
      have hkl : k < l.length := by omega
      have honly : ∀ i ∈ Region.ready .any l.toArray listed, i = k := fun i hi => by
        obtain ⟨h1, o, ho, hall⟩ := mem_ready.1 hi
        have hlt : i < l.length := by
          have := (Array.getElem?_eq_some_iff.1 ho).1
          simpa using this
        have hlt' : i < listed.size := hsz ▸ hlt
        have hun : listed.getD i false = false := by simpa [hlt'] using h1
        have hik : k ≤ i := by
          rcases Nat.lt_or_ge i k with hh | hh
          · rw [hlo i hh] at hun; cases hun
          · exact hh
        have hD := tailOk_spec (htail i hlt (by omega)) (fun j => listed.getD j false) (fun k' o' hk' hor j hj => by
          rcases hor with hor | rfl
          · have hkk : k' < k := by
              rcases Nat.lt_or_ge k' k with hh | hh
              · exact hh
              · have h7 := hhi k' hh
                have h8 : listed.getD k' false = true := hor
                rw [h7] at h8; cases h8
            have := hwlt k' o' hk' j hj
            exact hlo j (by omega)
          · have ho2 : l[k']? = some o := by simpa using ho
            rw [ho2] at hk'
            cases hk'
            obtain ⟨e, he, hb, rfl⟩ := waits_mem.1 hj
            exact hall e he hb)
        rcases Nat.lt_or_ge k i with hh | hh
        · have h5 := hD k hh
          have h6 := hhi k (Nat.le_refl _)
          have h8 : listed.getD k false = true := h5
          rw [h6] at h8; cases h8
        · omega
      have hkf : listed.getD k true = false := by
        have h6 := hhi k (Nat.le_refl _)
        have hlt' : k < listed.size := hsz ▸ hkl
        simpa [hlt'] using h6
      have hkr : k ∈ Region.ready .any l.toArray listed := mem_ready.2 ⟨hkf, l[k], by simp [hkl], fun e he hb =>
        hlo e.on (hwlt k l[k] (by simp [hkl]) e.on (waits_mem.2 ⟨e, he, hb, rfl⟩))⟩
      refine ⟨fun hr => (by rw [hr] at hkr; cases hkr), fun i hi => ?_⟩
      obtain rfl := honly i hi
      rw [List.drop_eq_getElem_cons hkl] at h
      have hih : ∀ a w, wpList P l.toArray Q (l.drop (i + 1)) a w → wpAny P .any l.toArray Q fuel (listed.setIfInBounds i true) a w := fun a w h' =>
        ih _ a w (i + 1) (by simpa using hsz) (by omega) (by omega) (fun j hj => by
          have hlt' : i < listed.size := hsz ▸ hkl
          by_cases hji : j = i
          · subst hji; simp [hlt']
          · have hij : i ≠ j := fun h => hji h.symm
            simpa [Array.getElem?_setIfInBounds_ne hij] using hlo j (by omega)) (fun j hj => by
          have hij : i ≠ j := by omega
          simpa [Array.getElem?_setIfInBounds_ne hij] using hhi j (by omega)) h'
      unfold wpOp
      have ho : l.toArray[i]? = some l[i] := by simp [hkl]
      simp only [ho]
      unfold wpList at h
      split
      · rename_i hw
        rw [if_pos hw] at h
        exact h.imp (Oper.wp_mono hih) (fun x => x)
      · rename_i hw
        rw [if_neg hw] at h
        exact hih _ _ h
  have main : ∀ (fuel : Nat) (listed : Array Bool) (xs : Nat → Value) (w : World), listed.size = l.length → left listed = fuel →
      (∀ j, m ≤ j → listed.getD j false = false) → (∀ k o, l[k]? = some o → listed.getD k false = true → ∀ j ∈ waits o, listed.getD j false = true) →
      (∀ j, listed.getD j false = true → V j (xs j) w) → I (fun j => listed.getD j false) w →
      wpAny P .any l.toArray Q fuel listed (fillIf (fun j => listed.getD j false) a0 (dsts 0 (l.take m)) xs) w := by
    intro fuel
    induction fuel with
    | zero =>
      intro listed xs w hsz hl hhi hcl hV hI
      have hall : ∀ j, j < l.length → listed.getD j false = true := fun j hj => left_zero hl j (hsz ▸ hj)
      have hmeq : m = l.length := by
        rcases Nat.lt_or_ge m l.length with h | h
        · have h1 := hall m h
          rw [hhi m (Nat.le_refl _)] at h1; cases h1
        · omega
      refine row 0 listed _ w l.length hsz (by omega) (by omega) hall (fun j hj => hhi j (by omega)) ?_
      rw [fillIf_all _ _ (fun p hp => by
        obtain ⟨i, o, hi, hj, _⟩ := (mem_dsts (l.take m) 0 p.1 p.2).1 hp
        have := (List.getElem?_eq_some_iff.1 hi).1
        simp only [List.length_take] at this
        exact hall p.1 (by omega))]
      have := hend _ xs w (fun j hj => hall j (by omega)) (fun j hj => hV j (hall j (by omega))) hI
      rw [hmeq] at this ⊢
      exact this
    | succ fuel ih =>
      intro listed xs w hsz hl hhi hcl hV hI
      by_cases hfront : ∀ j, j < m → listed.getD j false = true
      · -- all of the first m are done: the row begins
        have hcount : left listed = l.length - m := by
          obtain ⟨lst⟩ := listed
          simp only [left]
          have hsz' : lst.length = l.length := by simpa using hsz
          have e1 : lst = List.replicate m true ++ List.replicate (l.length - m) false := by
            apply List.ext_getElem
            · simp; omega
            · intro i h1 h2
              by_cases him : i < m
              · have := hfront i him
                simp [h1] at this
                simp [him, this]
              · have := hhi i (by omega)
                simp [h1] at this
                rw [List.getElem_append_right (by simpa using him)]
                simp [this]
          rw [e1]
          simp [List.countP_replicate]
        refine row (fuel + 1) listed _ w m hsz (by omega) (Nat.le_refl _) hfront hhi ?_
        rw [fillIf_all _ _ (fun p hp => by
          obtain ⟨i, o, hi, hj, _⟩ := (mem_dsts (l.take m) 0 p.1 p.2).1 hp
          have := (List.getElem?_eq_some_iff.1 hi).1
          simp only [List.length_take] at this
          exact hfront p.1 (by omega))]
        exact hend _ xs w hfront (fun j hj => hV j (hfront j hj)) hI
      refine ⟨fun hr => ?_, fun i hi => ?_⟩
      · exfalso
        obtain ⟨i, hi, hmin⟩ := least_unlisted (listed := listed) (by omega)
        have hlt : i < listed.size := by
          rcases Nat.lt_or_ge i listed.size with h' | h'
          · exact h'
          · simp [Array.getElem?_eq_none h'] at hi
        have hlt2 : i < l.length := hsz ▸ hlt
        have : i ∈ Region.ready .any l.toArray listed := mem_ready.2 ⟨hi, l[i], by simp [hlt2], fun e he hb => by
          have h3 := hwlt i l[i] (by simp [hlt2]) e.on (waits_mem.2 ⟨e, he, hb, rfl⟩)
          have h4 := hmin e.on h3
          have h5 : e.on < listed.size := by omega
          simpa [h5] using h4⟩
        rw [hr] at this
        cases this
      · obtain ⟨hun, o, ho, hall⟩ := mem_ready.1 hi
        have ho' : l[i]? = some o := by simpa using ho
        have hi2 : i < listed.size := by
          rcases Nat.lt_or_ge i listed.size with h' | h'
          · exact h'
          · simp [Array.getElem?_eq_none h'] at hun
        have hDi : listed.getD i false = false := by simpa [hi2] using hun
        have hwait : ∀ j ∈ waits o, listed.getD j false = true := fun j hj => by
          obtain ⟨e, he, hb, rfl⟩ := waits_mem.1 hj
          exact hall e he hb
        have him : i < m := by
          rcases Nat.lt_or_ge i m with h | h
          · exact h
          · exfalso
            have hD := tailOk_spec (htail i (hsz ▸ hi2) h) (fun j => listed.getD j false) (fun k' o' hk' hor j hj => by
              rcases hor with hor | rfl
              · exact hcl k' o' hk' hor j hj
              · rw [ho'] at hk'
                cases hk'
                exact hwait j hj)
            exact hfront fun j hj => hD j (by omega)
        have hlk := hok i o him ho'
        simp only [looksOk, Bool.and_eq_true, List.all_eq_true] at hlk
        have hlooks : ∀ t ∈ o.looksAt l.toArray, ∀ p ∈ dsts 0 (l.take m), t = p.2 → listed.getD p.1 false = true := fun t ht p hp hte => by
          have h1 := hlk.1.1 t ht p hp
          subst hte
          have h2 : p.1 ∈ waits o := by simpa using h1
          exact hwait _ h2
        have hev : ∀ x ∈ o.op.operands, (fillIf (fun j => listed.getD j false) a0 (dsts 0 (l.take m)) xs).eval x = (fill a0 (dsts 0 (l.take m)) xs).eval x := fun x hx =>
          eval_fillIf x _ _ fun p hp hxe => hlooks p.2 (by
            subst hxe
            exact List.mem_append_left _ (List.mem_filterMap.2 ⟨.tmp p.2, by simpa using hx, rfl⟩)) p hp rfl
        have hsel : ∀ cs b, o.op ≠ .select cs b := fun cs b he => by
          have := hlk.2
          rw [he] at this
          cases this
        have hexec := execOp_congr o hsel hev
        have hwant : Region.wanted o (yielded l.toArray (fillIf (fun j => listed.getD j false) a0 (dsts 0 (l.take m)) xs).tmps) = Region.wanted o (yielded l.toArray (fill a0 (dsts 0 (l.take m)) xs).tmps) := by
          unfold Region.wanted
          cases hgd : o.guard with
          | none => rfl
          | some gw =>
            obtain ⟨g, want⟩ := gw
            simp only []
            rw [yielded_eval (fun d hd => eval_fillIf (.tmp d) _ _ fun p hp hpe => hlooks p.2 (by
              refine List.mem_append_right _ ?_
              simp only [hgd]
              have hpd : d = p.2 := by cases hpe; rfl
              rw [hd, hpd]
              simp) p hp rfl)]
        have hstep := hs i o him ho' (fun j => listed.getD j false) xs w hDi hwait hV hI
        have hput : ∀ v w', (V i v w' ∧ (∀ j, listed.getD j false = true → V j (xs j) w') ∧ I (fun j => listed.getD j false || j == i) w') →
            wpAny P .any l.toArray Q fuel (listed.setIfInBounds i true) ((fillIf (fun j => listed.getD j false) a0 (dsts 0 (l.take m)) xs).put o.dst v) w' := by
          rintro v w' ⟨hv, hVs, hI'⟩
          have hD' : (fun j => (listed.setIfInBounds i true).getD j false) = (fun j => listed.getD j false || j == i) := by
            funext j
            by_cases hji : j = i
            · subst hji; simp [hi2]
            · have hij : i ≠ j := fun h => hji h.symm
              simp [Array.getElem?_setIfInBounds_ne hij, hji]
          have hfr : (fillIf (fun j => listed.getD j false) a0 (dsts 0 (l.take m)) xs).put o.dst v = fillIf (fun j => (listed.setIfInBounds i true).getD j false) a0 (dsts 0 (l.take m)) (fun j => if j = i then v else xs j) := by
            rw [hD']
            cases hdst : o.dst with
            | none =>
              simp only [Act.put]
              refine fillIf_congr _ _ fun p hp => ?_
              obtain ⟨i', o', hi', hj', hd'⟩ := (mem_dsts (l.take m) 0 p.1 p.2).1 hp
              have hne : p.1 ≠ i := fun he => by
                have : i' = i := by omega
                subst this
                rw [htk i' him, ho'] at hi'
                cases hi'
                rw [hdst] at hd'
                cases hd'
              simp [hne]
            | some d =>
              exact (fillIf_set i v _ a0 d hdis ((mem_dsts (l.take m) 0 i d).2 ⟨i, o, by rw [htk i him]; exact ho', by omega, hdst⟩) hDi).symm
          rw [hfr]
          have hmono : ∀ j, listed.getD j false = true → (listed.setIfInBounds i true).getD j false = true := fun j hj => getD_set_true hj
          refine ih _ _ _ (by simpa using hsz) (by have := left_set hun; omega) (fun j hj => ?_) (fun k o' hk hlk' j hj => ?_) (fun j hj => ?_) ?_
          · have hij : i ≠ j := by omega
            simpa [Array.getElem?_setIfInBounds_ne hij] using hhi j hj
          · by_cases hki : k = i
            · subst hki
              rw [ho'] at hk; cases hk
              exact hmono j (hwait j hj)
            · have hik : i ≠ k := fun h => hki h.symm
              exact hmono j (hcl k o' hk (by simpa [Array.getElem?_setIfInBounds_ne hik] using hlk') j hj)
          · by_cases hji : j = i
            · subst hji; simpa using hv
            · simp only [hji, if_false]
              refine hVs j ?_
              have hij : i ≠ j := fun h => hji h.symm
              simpa [Array.getElem?_setIfInBounds_ne hij] using hj
          · rw [hD']; exact hI'
        unfold wpOp
        simp only [ho]
        unfold DoesG at hstep
        rw [hwant]
        split
        · rename_i hw
          rw [if_pos hw] at hstep
          refine .inl (Does.upon ?_ hput)
          unfold Does at hstep ⊢
          rw [hexec]
          exact hstep
        · rename_i hw
          rw [if_neg hw] at hstep
          exact hput _ _ hstep
  have hrep : ∀ j, (Array.replicate l.length false).getD j false = false := fun j => by
    by_cases h : j < l.length <;> simp [h]
  have hstart := main l.length (Array.replicate l.length false) (fun _ => undef) w0.drew (by simp) (by simp [left, List.countP_replicate]) (fun j _ => hrep j) (fun k o _ h => by rw [hrep] at h; cases h)
    (fun j hj => by rw [hrep] at hj; cases hj) (by
      have : (fun j => (Array.replicate l.length false).getD j false) = fun _ => false := funext hrep
      rw [this]; exact h0)
  have hfr0 : fillIf (fun j => (Array.replicate l.length false).getD j false) a0 (dsts 0 (l.take m)) (fun _ => undef) = a0 := by
    have : ∀ (ds : List (Nat × Tmp)) (a : Act), fillIf (fun j => (Array.replicate l.length false).getD j false) a ds (fun _ => undef) = a := by
      intro ds
      induction ds with
      | nil => intro a; rfl
      | cons p ds ih =>
        intro a
        obtain ⟨j, d⟩ := p
        simp only [fillIf]
        rw [hrep j]
        exact ih a
    exact this _ _
  rw [hfr0] at hstart
  simpa using hstart

/-- **THE RULE, WALKED IN THE TEXT's ORDER.** -/
theorem reg_seqI {w0 : World} (m : Nat) (I : (Nat → Bool) → World → Prop) (hg : good m l = true)
    (hlt : (dsts 0 (l.take m)).all (fun p => decide (p.2 < a0.tmps.size)) = true) (h0 : I (fun _ => false) w0.drew)
    (hs : SeqI P l.toArray I 0 (l.take m) a0 (fun F => ∀ D w, (∀ j, j < m → D j = true) → I D w → wpList P l.toArray Q (l.drop m) F w)) : RegOk P l Q a0 w0 := by
  have hg' := hg
  simp only [good, Bool.and_eq_true, decide_eq_true_eq] at hg'
  obtain ⟨⟨⟨hg1, hg2⟩, hml⟩, _⟩ := hg'
  have htk : ∀ i, i < m → (l.take m)[i]? = l[i]? := fun i hi => by simp [hi]
  obtain ⟨xs, fr, hf0, hall, hK⟩ := SeqI_spec (l.take m) 0 a0 hs
  have hdis := distinct_spec hg1
  have hmem' : ∀ p ∈ dsts 0 (l.take m), p.1 < m ∧ (l[p.1]?).bind (fun o => o.dst) = some p.2 := fun p hp => by
    obtain ⟨i', o', hi', hj', hd'⟩ := (mem_dsts (l.take m) 0 p.1 p.2).1 hp
    have h1 := (List.getElem?_eq_some_iff.1 hi').1
    simp only [List.length_take] at h1
    have h2 : p.1 = i' := by omega
    rw [htk i' (by omega)] at hi'
    exact ⟨by omega, by rw [h2, hi']; exact hd'⟩
  have hfr : ∀ i, i ≤ m → fr i = fillIf (fun j => decide (j < i)) a0 (dsts 0 (l.take m)) xs := by
    intro i
    induction i with
    | zero =>
      intro _
      rw [hf0]
      have : ∀ (ds : List (Nat × Tmp)) (a : Act), fillIf (fun j => decide (j < 0)) a ds xs = a := by
        intro ds
        induction ds with
        | nil => intro a; rfl
        | cons p ds ih => intro a; obtain ⟨j, d⟩ := p; simp only [fillIf]; exact ih a
      exact (this _ _).symm
    | succ i ih =>
      intro hi
      have hil : i < l.length := by omega
      have ho : (l.take m)[i]? = some l[i] := by rw [htk i (by omega)]; simp [hil]
      have h1 := (hall i l[i] ho).1
      simp only [Nat.zero_add] at h1
      rw [h1, ih (by omega)]
      cases hd : l[i].dst with
      | none =>
        simp only [Act.put]
        refine fillIf_congr _ _ fun p hp => ?_
        have hne : p.1 ≠ i := fun he => by
          have := (hmem' p hp).2
          rw [he] at this
          simp [hil, hd] at this
        constructor
        · simp only [decide_eq_decide]; omega
        · intro _; rfl
      | some d =>
        have := fillIf_set (D := fun j => decide (j < i)) (xs := xs) i (xs i) (dsts 0 (l.take m)) a0 d hdis ((mem_dsts (l.take m) 0 i d).2 ⟨i, l[i], ho, by omega, hd⟩) (by simp)
        rw [← this]
        refine fillIf_congr _ _ fun p _ => ⟨?_, fun _ => ?_⟩
        · by_cases h : p.1 = i
          · simp [h]
          · have hb : (p.1 == i) = false := by simpa using h
            simp only [hb, Bool.or_false, decide_eq_decide]; omega
        · split
          · rename_i h; rw [h]
          · rfl
  have hsz : ∀ (D : Nat → Bool) (ds : List (Nat × Tmp)) (a : Act), (fillIf D a ds xs).tmps.size = a.tmps.size := by
    intro D ds
    induction ds with
    | nil => intro a; rfl
    | cons p ds ih => intro a; obtain ⟨j, d⟩ := p; simp only [fillIf]; rw [ih]; split <;> simp [Act.put]
  refine reg_inv m hg (fun j v _ => ∀ d, (l[j]?).bind (fun o => o.dst) = some d → v = xs j) I h0 ?_ ?_
  · intro i o him ho D ys w hD hwait hV hI
    have ho' : (l.take m)[i]? = some o := by rw [htk i him]; exact ho
    have hok : looksOk l.toArray (dsts 0 (l.take m)) i o = true := by simpa using goodOps_spec (l.take m) 0 hg2 i o ho'
    obtain ⟨hput, hrun⟩ := hall i o ho'
    have h1 := hrun D w (by simpa using hD) hwait hI
    simp only [Nat.zero_add] at h1 hput
    have hstep : DoesG P l.toArray o (fr i) w (fun v w' => (∀ d, o.dst = some d → v = xs i) ∧ I (fun j => D j || j == i) w') := by
      refine Does_of_alone (alone_mono _ _ ?_ h1)
      rintro a w' ⟨rfl, hR⟩
      have hdef : ∀ (b : Act) (d : Option Tmp) (v : Value), (b.put d v).defers = b.defers := fun b d v => by cases d <;> rfl
      refine ⟨by rw [hput, hdef], fun v hv => ⟨fun d hd => ?_, hR⟩⟩
      rw [hput] at hv
      simp only [hd] at hv
      have hmem : (i, d) ∈ dsts 0 (l.take m) := (mem_dsts (l.take m) 0 i d).2 ⟨i, o, ho', by omega, hd⟩
      have hlt' : d < (fr i).tmps.size := by
        rw [hfr i (by omega), hsz]
        have := List.all_eq_true.1 hlt (i, d) hmem
        simpa using this
      have h3 := congrArg (fun b : Act => b.tmps.getD d undef) hv
      simpa [Act.put, hlt'] using h3.symm
    rw [hfr i (by omega)] at hstep
    -- from the frame of the text's order to the frame at hand
    have hok' := hok
    simp only [looksOk, Bool.and_eq_true, List.all_eq_true] at hok'
    have hlooks : ∀ t ∈ o.looksAt l.toArray, ∀ p ∈ dsts 0 (l.take m), t = p.2 → p.1 ∈ waits o := fun t ht p hp hte => by
      have h1 := hok'.1.1 t ht p hp
      subst hte
      simpa using h1
    have hwi : ∀ j ∈ waits o, j < i := fun j hj => by
      have := hok'.1.2 j hj
      simpa using this
    have hval : ∀ p ∈ dsts 0 (l.take m), p.1 ∈ waits o → xs p.1 = ys p.1 := fun p hp hw => (hV p.1 (hwait _ hw) p.2 (hmem' p hp).2).symm
    have hev : ∀ x ∈ o.op.operands, (fillIf (fun j => decide (j < i)) a0 (dsts 0 (l.take m)) xs).eval x = (fill a0 (dsts 0 (l.take m)) ys).eval x := fun x hx => by
      have hl : ∀ p ∈ dsts 0 (l.take m), x = .tmp p.2 → p.1 ∈ waits o := fun p hp hxe => hlooks p.2 (by
        subst hxe
        exact List.mem_append_left _ (List.mem_filterMap.2 ⟨.tmp p.2, by simpa using hx, rfl⟩)) p hp rfl
      rw [eval_fillIf x _ _ (fun p hp hxe => by simpa using hwi _ (hl p hp hxe))]
      exact eval_fill_congr x _ _ fun p hp hxe => hval p hp (hl p hp hxe)
    have hsel : ∀ cs b, o.op ≠ .select cs b := fun cs b he => by
      have := hok'.2
      rw [he] at this
      cases this
    have hexec := execOp_congr o hsel hev
    have hwant : Region.wanted o (yielded l.toArray (fillIf (fun j => decide (j < i)) a0 (dsts 0 (l.take m)) xs).tmps) = Region.wanted o (yielded l.toArray (fill a0 (dsts 0 (l.take m)) ys).tmps) := by
      unfold Region.wanted
      cases hgd : o.guard with
      | none => rfl
      | some gw =>
        obtain ⟨g, want⟩ := gw
        simp only []
        have hl : ∀ d, (l.toArray[g]?).bind (fun o => o.dst) = some d → ∀ p ∈ dsts 0 (l.take m), (.tmp d : Operand) = .tmp p.2 → p.1 ∈ waits o := fun d hd p hp hpe => hlooks p.2 (by
          refine List.mem_append_right _ ?_
          simp only [hgd]
          have hpd : d = p.2 := by cases hpe; rfl
          rw [hd, hpd]
          simp) p hp rfl
        have hy : yielded l.toArray (fillIf (fun j => decide (j < i)) a0 (dsts 0 (l.take m)) xs).tmps g = yielded l.toArray (fill a0 (dsts 0 (l.take m)) ys).tmps g := yielded_eval (fun d hd => by
          rw [eval_fillIf (.tmp d) _ _ (fun p hp hpe => by simpa using hwi _ (hl d hd p hp hpe))]
          exact eval_fill_congr (.tmp d) _ _ fun p hp hpe => hval p hp (hl d hd p hp hpe))
        rw [hy]
    have fin : ∀ v w', ((∀ d, o.dst = some d → v = xs i) ∧ I (fun j => D j || j == i) w') → ((∀ d, (l[i]?).bind (fun o => o.dst) = some d → v = xs i) ∧ (∀ j, D j = true → ∀ d, (l[j]?).bind (fun o => o.dst) = some d → ys j = xs j) ∧ I (fun j => D j || j == i) w') := fun v w' h =>
      ⟨fun d hd => h.1 d (by simpa [ho] using hd), fun j hj => hV j hj, h.2⟩
    unfold DoesG Does at *
    rw [hwant, hexec] at hstep
    split
    · rename_i hw
      rw [if_pos hw] at hstep
      generalize (execOp (fill a0 (dsts 0 (l.take m)) ys).eval o).run P w = r at *
      cases r with
      | ok n w' =>
        cases n <;> simp only [] at hstep ⊢
        case value v => exact fin _ _ hstep
        case skip => exact fin _ _ hstep
        case enter f args => exact Calls.mono hstep fun e w'' ⟨v, he, hv⟩ => ⟨v, he, fin _ _ hv⟩
        case row row args => exact Rows.mono hstep fun v w'' hv => fin _ _ hv
      | halt x w' => exact hstep
    · rename_i hw
      rw [if_neg hw] at hstep
      exact fin _ _ hstep
  · intro D ys w hD hV hI
    have hlen : (l.take m).length = m := by simp; omega
    rw [hlen, Nat.zero_add, hfr m (Nat.le_refl _)] at hK
    rw [fill_congr (xs' := xs)]
    · rw [fillIf_all _ _ (fun p hp => by simpa using (hmem' p hp).1)] at hK
      exact hK D w hD hI
    · intro p hp
      exact hV p.1 (hmem' p hp).1 p.2 (hmem' p hp).2

theorem reg_seq {w0 : World} (m : Nat) (R : World → Prop) (hg : good m l = true)
    (hlt : (dsts 0 (l.take m)).all (fun p => decide (p.2 < a0.tmps.size)) = true) (h0 : R w0.drew)
    (hs : SeqI P l.toArray (fun _ => R) 0 (l.take m) a0 (fun F => ∀ (D : Nat → Bool) w, (∀ j, j < m → D j = true) → R w → wpList P l.toArray Q (l.drop m) F w)) : RegOk P l Q a0 w0 :=
  reg_seqI m (fun _ => R) hg hlt h0 hs

theorem callsIn_round {n L : Nat} {f : FuncId} {args : Array Value} {w : World} {R : Ending → World → Prop} (h : Calls P f args w R) : CallsIn (Fence.wide.inRound L) n P f args w R := CallsIn.inRound L (callsIn_wide.2 h)
theorem rowsIn_round {n L : Nat} {row : String} {args : Array Value} {w : World} {R : Value → World → Prop} (h : Rows P row args w R) : RowsIn (Fence.wide.inRound L) n P row args w R := fun c cs _ => by
  obtain ⟨v, w', r, s⟩ := h c cs
  exact ⟨v, w', r, stepsIn_wide.2 s⟩
theorem operIn_round {n L : Nat} {o : Oper} {a : Act} {w : World} {K : Act → World → Prop} (hd : ∀ c, o.op ≠ .defer c) (h : o.wp P a w K Q) : o.wpIn (Fence.wide.inRound L) n P a w K Q := by
  refine ⟨fun _ _ => trivial, ?_⟩
  unfold Oper.wp at h
  rw [Oper.semAt_eq _ _ _ hd]
  generalize (execOp a.eval o).run P w = r at *
  cases r with
  | ok x w' =>
    cases x <;> simp only [Oper.upon, Oper.uponIn] at h ⊢
    case value v => exact h
    case skip => exact h
    case defer d => exact h
    case enter f args => exact ⟨fun e => (by cases e), callsIn_round h⟩
    case row row args => exact ⟨fun e => (by cases e), rowsIn_round h⟩
  | halt x w' => cases x <;> simp only [Oper.upon, Oper.uponIn] at h ⊢ <;> exact h
theorem anyIn_round {n L : Nat} {ops : Array Oper} (hQ : ¬ LetsOut Q) (hd : ∀ o ∈ ops, ∀ c, o.op ≠ .defer c) : ∀ (fuel : Nat) (listed : Array Bool) (a : Act) (w : World), wpAny P .any ops Q fuel listed a w → wpAnyIn (Fence.wide.inRound L) n P .any ops Q fuel listed a w := by
  intro fuel
  induction fuel with
  | zero => intro listed a w h; exact h
  | succ fuel ih =>
    intro listed a w h
    refine ⟨h.1, fun i hi => ?_⟩
    have h2 := h.2 i hi
    unfold wpOp at h2
    unfold wpOpIn
    cases ho : ops[i]? with
    | none => rw [ho] at h2; exact ih _ _ _ h2
    | some o =>
      rw [ho] at h2
      simp only at h2 ⊢
      split
      · rename_i hw
        rw [if_pos hw] at h2
        rcases h2 with h2 | ⟨_, h2⟩
        · exact Oper.wpIn_mono (fun a w h => ih _ a w h) (operIn_round (hd o (Array.mem_of_getElem? ho)) h2)
        · exact absurd h2 hQ
      · rename_i hw
        rw [if_neg hw] at h2
        exact ⟨fun _ _ => trivial, ih _ _ _ h2⟩
def noDefer (l : List Oper) : Bool := l.all fun o => match o.op with | .defer _ => false | _ => true
/-- **THE WAY INTO A ROUND.** -/
theorem region_round {id n L : Nat} {w0 : World} (hm : P.follows .mixedOrders = true) (hQ : ¬ LetsOut Q) (hd : noDefer l = true) (h : RegOk P l Q a0 w0) : (Code.region id l.toArray true).wpIn (Fence.wide.inRound L) n P Q a0 w0 :=
  wpIn_region_any hm (anyIn_round hQ (fun o ho c hc => by
    have := List.all_eq_true.1 hd o (by simpa using ho)
    rw [hc] at this
    cases this) _ _ _ _ h)
end
end Go.Burg
