/- Part 21 of 51 of a proof: lemmas on the functions that it reaches. -/
import Derived.Test.YtnngicopphiaaaaGreatDoorC04
namespace Go.Burg
open Go
def maskOf (ms : List Nat) (ws : List Nat) : Nat := ws.foldl (fun acc p => acc ||| 2 ^ p ||| ms.getD p 0) 0
def masks (l : List Oper) : List Nat := l.foldl (fun ms o => ms ++ [maskOf ms (waits o)]) []
theorem maskOf_bit {ms : List Nat} {D : Nat → Bool} (h : ∀ p j, D p = true → (ms.getD p 0).testBit j = true → D j = true) : ∀ (ws : List Nat) (acc : Nat), (∀ p ∈ ws, D p = true) → (∀ j, acc.testBit j = true → D j = true) →
    ∀ j, (ws.foldl (fun acc p => acc ||| 2 ^ p ||| ms.getD p 0) acc).testBit j = true → D j = true := by
  intro ws
  induction ws with
  | nil => intro acc _ ha j hj; exact ha j hj
  | cons p ws ih =>
    intro acc hw ha j hj
    refine ih _ (fun q hq => hw q (by simp [hq])) (fun i hi => ?_) j hj
    simp only [Nat.testBit_or, Bool.or_eq_true] at hi
    rcases hi with (hi | hi) | hi
    · exact ha i hi
    · rw [Nat.testBit_two_pow] at hi
      have : p = i := by simpa using hi
      subst this
      exact hw p (by simp)
    · exact h p i (hw p (by simp)) hi
theorem masks_bit {l : List Oper} {D : Nat → Bool} (hcl : ∀ k o, l[k]? = some o → D k = true → ∀ j ∈ waits o, D j = true) : ∀ i j, D i = true → ((masks l).getD i 0).testBit j = true → D j = true := by
  have main : ∀ (rest done : List Oper) (ms : List Nat), done ++ rest = l → ms.length = done.length → (∀ i j, D i = true → (ms.getD i 0).testBit j = true → D j = true) →
      ∀ i j, D i = true → ((rest.foldl (fun ms o => ms ++ [maskOf ms (waits o)]) ms).getD i 0).testBit j = true → D j = true := by
    intro rest
    induction rest with
    | nil => intro done ms _ _ h i j hi hj; exact h i j hi hj
    | cons o rest ih =>
      intro done ms hl hlen h i j hi hj
      refine ih (done ++ [o]) (ms ++ [maskOf ms (waits o)]) (by simpa using hl) (by simp [hlen]) (fun i j hi hj => ?_) i j hi hj
      by_cases hin : i < ms.length
      · rw [List.getD_eq_getElem?_getD, List.getElem?_append_left hin, ← List.getD_eq_getElem?_getD] at hj
        exact h i j hi hj
      · rw [List.getD_eq_getElem?_getD, List.getElem?_append_right (by omega)] at hj
        by_cases hie : i = ms.length
        · subst hie
          simp at hj
          have ho : l[ms.length]? = some o := by rw [← hl, hlen]; simp
          exact maskOf_bit h (waits o) 0 (hcl _ o ho hi) (fun j hj => by simp at hj) j hj
        · have : i - ms.length ≠ 0 := by omega
          have h0 : ([maskOf ms (waits o)])[i - ms.length]? = none := by
            apply List.getElem?_eq_none
            simp
            omega
          rw [h0] at hj
          simp at hj
  exact main l [] [] rfl rfl (fun i j _ hj => by simp at hj)
section
variable {P : Program} {l : List Oper} {Q : Exit → Act → World → Prop} {a0 : Act}
theorem wp_region_jointC {id : Nat} {w0 : World} (m : Nat) (hm : P.follows .mixedOrders = true) (hg : good m l = true)
    (J : (Nat → Bool) → (Nat → Value) → World → Prop) (h0 : J (fun _ => false) (fun _ => undef) w0.drew)
    (hs : ∀ i o, i < m → l[i]? = some o → ∀ (D : Nat → Bool) (xs : Nat → Value) (w : World), D i = false → (∀ j ∈ waits o, D j = true) → (∀ k o', l[k]? = some o' → D k = true → ∀ j ∈ waits o', D j = true) → J D xs w →
      DoesG P l.toArray o (fill a0 (dsts 0 (l.take m)) xs) w fun v w' => J (fun j => D j || j == i) (fun j => if j = i then v else xs j) w')
    (hend : ∀ (D : Nat → Bool) (xs : Nat → Value) (w : World), (∀ j, j < m → D j = true) → J D xs w → wpList P l.toArray Q (l.drop m) (fill a0 (dsts 0 (l.take m)) xs) w) :
    (Code.region id l.toArray true).wp P Q a0 w0 := by
  simp only [good, Bool.and_eq_true, decide_eq_true_eq, List.all_eq_true, List.mem_range] at hg
  obtain ⟨⟨⟨hg1, hg2⟩, hml⟩, hg4⟩ := hg
  have hdis := distinct_spec hg1
  have htk : ∀ i, i < m → (l.take m)[i]? = l[i]? := fun i hi => by simp [hi]
  have hok : ∀ i o, i < m → l[i]? = some o → looksOk l.toArray (dsts 0 (l.take m)) i o = true := fun i o hi h => by simpa using goodOps_spec (l.take m) 0 hg2 i o (by rw [htk i hi]; exact h)
  have hwlt : ∀ i o, l[i]? = some o → ∀ j ∈ waits o, j < i := fun i o ho j hj => by
    have hlt := (List.getElem?_eq_some_iff.1 ho).1
    have := (hg4 i hlt).1
    rw [ho] at this
    simpa using this j (by simpa using hj)
  have htail : ∀ i, i < l.length → m ≤ i → tailOk l i = true := fun i hi hmi => by
    have := (hg4 i hi).2
    rcases Bool.or_eq_true_iff.1 this with h | h
    · simp at h; omega
    · exact h
  refine wp_region_any hm ?_
  -- the row behind number m
  have row : ∀ (fuel : Nat) (listed : Array Bool) (a : Act) (w : World) (k : Nat), listed.size = l.length → k + fuel = l.length → m ≤ k → (∀ j, j < k → listed.getD j false = true) → (∀ j, k ≤ j → listed.getD j false = false) →
      wpList P l.toArray Q (l.drop k) a w → wpAny P .any l.toArray Q fuel listed a w := by
    intro fuel
    induction fuel with
    | zero =>
      intro listed a w k hsz hk hmk hlo hhi h
      have hnil : Region.ready .any l.toArray listed = [] := by
        cases hr : Region.ready .any l.toArray listed with
        | nil => rfl
        | cons i r =>
          have hi : i ∈ Region.ready .any l.toArray listed := by rw [hr]; simp
          obtain ⟨h1, o, ho, _⟩ := mem_ready.1 hi
          have hlt : i < l.length := by
            have := (Array.getElem?_eq_some_iff.1 ho).1
            simpa using this
          have h2 := hlo i (by omega)
          have hlt' : i < listed.size := hsz ▸ hlt
          simp [hlt'] at h1 h2
          rw [h1] at h2; cases h2
      refine ⟨hnil, ?_⟩
      rw [List.drop_eq_nil_of_le (by omega)] at h
      exact h
    | succ fuel ih =>
      intro listed a w k hsz hk hmk hlo hhi h
      have hkl : k < l.length := by omega
      have honly : ∀ i ∈ Region.ready .any l.toArray listed, i = k := fun i hi => by
        obtain ⟨h1, o, ho, hall⟩ := mem_ready.1 hi
        have hlt : i < l.length := by
          have := (Array.getElem?_eq_some_iff.1 ho).1
          simpa using this
        have hlt' : i < listed.size := hsz ▸ hlt
        have hun : listed.getD i false = false := by simpa [hlt'] using h1
        have hik : k ≤ i := by
          rcases Nat.lt_or_ge i k with hh | hh
          · rw [hlo i hh] at hun; cases hun
          · exact hh
        have hD := tailOk_spec (htail i hlt (by omega)) (fun j => listed.getD j false) (fun k' o' hk' hor j hj => by
          rcases hor with hor | rfl
          · have hkk : k' < k := by
              rcases Nat.lt_or_ge k' k with hh | hh
              · exact hh
              · have h7 := hhi k' hh
                have h8 : listed.getD k' false = true := hor
                rw [h7] at h8; cases h8
            have := hwlt k' o' hk' j hj
            exact hlo j (by omega)
          · have ho2 : l[k']? = some o := by simpa using ho
            rw [ho2] at hk'
            cases hk'
            obtain ⟨e, he, hb, rfl⟩ := waits_mem.1 hj
            exact hall e he hb)
        rcases Nat.lt_or_ge k i with hh | hh
        · have h5 := hD k hh
          have h6 := hhi k (Nat.le_refl _)
          have h8 : listed.getD k false = true := h5
          rw [h6] at h8; cases h8
        · omega
      have hkf : listed.getD k true = false := by
        have h6 := hhi k (Nat.le_refl _)
        have hlt' : k < listed.size := hsz ▸ hkl
        simpa [hlt'] using h6
      have hkr : k ∈ Region.ready .any l.toArray listed := mem_ready.2 ⟨hkf, l[k], by simp [hkl], fun e he hb =>
        hlo e.on (hwlt k l[k] (by simp [hkl]) e.on (waits_mem.2 ⟨e, he, hb, rfl⟩))⟩
      refine ⟨fun hr => (by rw [hr] at hkr; cases hkr), fun i hi => ?_⟩
      obtain rfl := honly i hi
      rw [List.drop_eq_getElem_cons hkl] at h
      have hih : ∀ a w, wpList P l.toArray Q (l.drop (i + 1)) a w → wpAny P .any l.toArray Q fuel (listed.setIfInBounds i true) a w := fun a w h' =>
        ih _ a w (i + 1) (by simpa using hsz) (by omega) (by omega) (fun j hj => by
          have hlt' : i < listed.size := hsz ▸ hkl
          by_cases hji : j = i
          · subst hji; simp [hlt']
          · have hij : i ≠ j := fun h => hji h.symm
            simpa [Array.getElem?_setIfInBounds_ne hij] using hlo j (by omega)) (fun j hj => by
          have hij : i ≠ j := by omega
          simpa [Array.getElem?_setIfInBounds_ne hij] using hhi j (by omega)) h'
      unfold wpOp
      have ho : l.toArray[i]? = some l[i] := by simp [hkl]
      simp only [ho]
      unfold wpList at h
      split
      · rename_i hw
        rw [if_pos hw] at h
        exact h.imp (Oper.wp_mono hih) (fun x => x)
      · rename_i hw
        rw [if_neg hw] at h
        exact hih _ _ h
  have main : ∀ (fuel : Nat) (listed : Array Bool) (xs : Nat → Value) (w : World), listed.size = l.length → left listed = fuel →
      (∀ j, m ≤ j → listed.getD j false = false) → (∀ k o, l[k]? = some o → listed.getD k false = true → ∀ j ∈ waits o, listed.getD j false = true) →
      J (fun j => listed.getD j false) xs w →
      wpAny P .any l.toArray Q fuel listed (fillIf (fun j => listed.getD j false) a0 (dsts 0 (l.take m)) xs) w := by
    intro fuel
    induction fuel with
    | zero =>
      intro listed xs w hsz hl hhi hcl hJ
      have hall : ∀ j, j < l.length → listed.getD j false = true := fun j hj => left_zero hl j (hsz ▸ hj)
      have hmeq : m = l.length := by
        rcases Nat.lt_or_ge m l.length with h | h
        · have h1 := hall m h
          rw [hhi m (Nat.le_refl _)] at h1; cases h1
        · omega
      refine row 0 listed _ w l.length hsz (by omega) (by omega) hall (fun j hj => hhi j (by omega)) ?_
      rw [fillIf_all _ _ (fun p hp => by
        obtain ⟨i, o, hi, hj, _⟩ := (mem_dsts (l.take m) 0 p.1 p.2).1 hp
        have := (List.getElem?_eq_some_iff.1 hi).1
        simp only [List.length_take] at this
        exact hall p.1 (by omega))]
      have := hend _ xs w (fun j hj => hall j (by omega)) hJ
      rw [hmeq] at this ⊢
      exact this
    | succ fuel ih =>
      intro listed xs w hsz hl hhi hcl hJ
      by_cases hfront : ∀ j, j < m → listed.getD j false = true
      · -- all of the first m are done: the row begins
        have hcount : left listed = l.length - m := by
          obtain ⟨lst⟩ := listed
          simp only [left]
          have hsz' : lst.length = l.length := by simpa using hsz
          have e1 : lst = List.replicate m true ++ List.replicate (l.length - m) false := by
            apply List.ext_getElem
            · simp; omega
            · intro i h1 h2
              by_cases him : i < m
              · have := hfront i him
                simp [h1] at this
                simp [him, this]
              · have := hhi i (by omega)
                simp [h1] at this
                rw [List.getElem_append_right (by simpa using him)]
                simp [this]
          rw [e1]
          simp [List.countP_replicate]
        refine row (fuel + 1) listed _ w m hsz (by omega) (Nat.le_refl _) hfront hhi ?_
        rw [fillIf_all _ _ (fun p hp => by
          obtain ⟨i, o, hi, hj, _⟩ := (mem_dsts (l.take m) 0 p.1 p.2).1 hp
          have := (List.getElem?_eq_some_iff.1 hi).1
          simp only [List.length_take] at this
          exact hfront p.1 (by omega))]
        exact hend _ xs w hfront hJ
      refine ⟨fun hr => ?_, fun i hi => ?_⟩
      · exfalso
        obtain ⟨i, hi, hmin⟩ := least_unlisted (listed := listed) (by omega)
        have hlt : i < listed.size := by
          rcases Nat.lt_or_ge i listed.size with h' | h'
          · exact h'
          · simp [Array.getElem?_eq_none h'] at hi
        have hlt2 : i < l.length := hsz ▸ hlt
        have : i ∈ Region.ready .any l.toArray listed := mem_ready.2 ⟨hi, l[i], by simp [hlt2], fun e he hb => by
          have h3 := hwlt i l[i] (by simp [hlt2]) e.on (waits_mem.2 ⟨e, he, hb, rfl⟩)
          have h4 := hmin e.on h3
          have h5 : e.on < listed.size := by omega
          simpa [h5] using h4⟩
        rw [hr] at this
        cases this
      · obtain ⟨hun, o, ho, hall⟩ := mem_ready.1 hi
        have ho' : l[i]? = some o := by simpa using ho
        have hi2 : i < listed.size := by
          rcases Nat.lt_or_ge i listed.size with h' | h'
          · exact h'
          · simp [Array.getElem?_eq_none h'] at hun
        have hDi : listed.getD i false = false := by simpa [hi2] using hun
        have hwait : ∀ j ∈ waits o, listed.getD j false = true := fun j hj => by
          obtain ⟨e, he, hb, rfl⟩ := waits_mem.1 hj
          exact hall e he hb
        have him : i < m := by
          rcases Nat.lt_or_ge i m with h | h
          · exact h
          · exfalso
            have hD := tailOk_spec (htail i (hsz ▸ hi2) h) (fun j => listed.getD j false) (fun k' o' hk' hor j hj => by
              rcases hor with hor | rfl
              · exact hcl k' o' hk' hor j hj
              · rw [ho'] at hk'
                cases hk'
                exact hwait j hj)
            exact hfront fun j hj => hD j (by omega)
        have hlk := hok i o him ho'
        simp only [looksOk, Bool.and_eq_true, List.all_eq_true] at hlk
        have hlooks : ∀ t ∈ o.looksAt l.toArray, ∀ p ∈ dsts 0 (l.take m), t = p.2 → listed.getD p.1 false = true := fun t ht p hp hte => by
          have h1 := hlk.1.1 t ht p hp
          subst hte
          have h2 : p.1 ∈ waits o := by simpa using h1
          exact hwait _ h2
        have hev : ∀ x ∈ o.op.operands, (fillIf (fun j => listed.getD j false) a0 (dsts 0 (l.take m)) xs).eval x = (fill a0 (dsts 0 (l.take m)) xs).eval x := fun x hx =>
          eval_fillIf x _ _ fun p hp hxe => hlooks p.2 (by
            subst hxe
            exact List.mem_append_left _ (List.mem_filterMap.2 ⟨.tmp p.2, by simpa using hx, rfl⟩)) p hp rfl
        have hsel : ∀ cs b, o.op ≠ .select cs b := fun cs b he => by
          have := hlk.2
          rw [he] at this
          cases this
        have hexec := execOp_congr o hsel hev
        have hwant : Region.wanted o (yielded l.toArray (fillIf (fun j => listed.getD j false) a0 (dsts 0 (l.take m)) xs).tmps) = Region.wanted o (yielded l.toArray (fill a0 (dsts 0 (l.take m)) xs).tmps) := by
          unfold Region.wanted
          cases hgd : o.guard with
          | none => rfl
          | some gw =>
            obtain ⟨g, want⟩ := gw
            simp only []
            rw [yielded_eval (fun d hd => eval_fillIf (.tmp d) _ _ fun p hp hpe => hlooks p.2 (by
              refine List.mem_append_right _ ?_
              simp only [hgd]
              have hpd : d = p.2 := by cases hpe; rfl
              rw [hd, hpd]
              simp) p hp rfl)]
        have hstep := hs i o him ho' (fun j => listed.getD j false) xs w hDi hwait hcl hJ
        have hput : ∀ v w', J (fun j => listed.getD j false || j == i) (fun j => if j = i then v else xs j) w' →
            wpAny P .any l.toArray Q fuel (listed.setIfInBounds i true) ((fillIf (fun j => listed.getD j false) a0 (dsts 0 (l.take m)) xs).put o.dst v) w' := by
          intro v w' hJ'
          have hD' : (fun j => (listed.setIfInBounds i true).getD j false) = (fun j => listed.getD j false || j == i) := by
            funext j
            by_cases hji : j = i
            · subst hji; simp [hi2]
            · have hij : i ≠ j := fun h => hji h.symm
              simp [Array.getElem?_setIfInBounds_ne hij, hji]
          have hfr : (fillIf (fun j => listed.getD j false) a0 (dsts 0 (l.take m)) xs).put o.dst v = fillIf (fun j => (listed.setIfInBounds i true).getD j false) a0 (dsts 0 (l.take m)) (fun j => if j = i then v else xs j) := by
            rw [hD']
            cases hdst : o.dst with
            | none =>
              simp only [Act.put]
              refine fillIf_congr _ _ fun p hp => ?_
              obtain ⟨i', o', hi', hj', hd'⟩ := (mem_dsts (l.take m) 0 p.1 p.2).1 hp
              have hne : p.1 ≠ i := fun he => by
                have : i' = i := by omega
                subst this
                rw [htk i' him, ho'] at hi'
                cases hi'
                rw [hdst] at hd'
                cases hd'
              simp [hne]
            | some d =>
              exact (fillIf_set i v _ a0 d hdis ((mem_dsts (l.take m) 0 i d).2 ⟨i, o, by rw [htk i him]; exact ho', by omega, hdst⟩) hDi).symm
          rw [hfr]
          have hmono : ∀ j, listed.getD j false = true → (listed.setIfInBounds i true).getD j false = true := fun j hj => getD_set_true hj
          refine ih _ _ _ (by simpa using hsz) (by have := left_set hun; omega) (fun j hj => ?_) (fun k o' hk hlk' j hj => ?_) ?_
          · have hij : i ≠ j := by omega
            simpa [Array.getElem?_setIfInBounds_ne hij] using hhi j hj
          · by_cases hki : k = i
            · subst hki
              rw [ho'] at hk; cases hk
              exact hmono j (hwait j hj)
            · have hik : i ≠ k := fun h => hki h.symm
              exact hmono j (hcl k o' hk (by simpa [Array.getElem?_setIfInBounds_ne hik] using hlk') j hj)
          · rw [hD']; exact hJ'
        unfold wpOp
        simp only [ho]
        unfold DoesG at hstep
        rw [hwant]
        split
        · rename_i hw
          rw [if_pos hw] at hstep
          refine .inl (Does.upon ?_ hput)
          unfold Does at hstep ⊢
          rw [hexec]
          exact hstep
        · rename_i hw
          rw [if_neg hw] at hstep
          exact hput _ _ hstep
  have hrep : ∀ j, (Array.replicate l.length false).getD j false = false := fun j => by
    by_cases h : j < l.length <;> simp [h]
  have hstart := main l.length (Array.replicate l.length false) (fun _ => undef) w0.drew (by simp) (by simp [left, List.countP_replicate]) (fun j _ => hrep j) (fun k o _ h => by rw [hrep] at h; cases h)
    (by
      have : (fun j => (Array.replicate l.length false).getD j false) = fun _ => false := funext hrep
      rw [this]; exact h0)
  have hfr0 : fillIf (fun j => (Array.replicate l.length false).getD j false) a0 (dsts 0 (l.take m)) (fun _ => undef) = a0 := by
    have : ∀ (ds : List (Nat × Tmp)) (a : Act), fillIf (fun j => (Array.replicate l.length false).getD j false) a ds (fun _ => undef) = a := by
      intro ds
      induction ds with
      | nil => intro a; rfl
      | cons p ds ih =>
        intro a
        obtain ⟨j, d⟩ := p
        simp only [fillIf]
        rw [hrep j]
        exact ih a
    exact this _ _
  rw [hfr0] at hstart
  simpa using hstart
def behind (l : List Oper) (i j : Nat) : Bool := ((masks l).getD i 0).testBit j
def Closed (l : List Oper) (D : Nat → Bool) : Prop := ∀ k o, l[k]? = some o → D k = true → ∀ j ∈ waits o, D j = true
theorem Closed.back {D : Nat → Bool} (h : Closed l D) {i j : Nat} (hb : behind l i j = true) (hi : D i = true) : D j = true := masks_bit h i j hi hb
theorem Closed.ahead {D : Nat → Bool} (h : Closed l D) {i j : Nat} (hb : behind l i j = true) (hj : D j = false) : D i = false := by
  cases hi : D i
  · rfl
  · rw [h.back hb hi] at hj
    cases hj
theorem Closed.of_waits {D : Nat → Bool} (h : Closed l D) {j : Nat} {o : Oper} (hw : ∀ i ∈ Go.Burg.waits o, D i = true) (hb : (Go.Burg.waits o).any (fun i => i == j || Go.Burg.behind l i j) = true) : D j = true := by
  obtain ⟨i, hi, hij⟩ := List.any_eq_true.1 hb
  rcases Bool.or_eq_true_iff.1 hij with e | e
  · have : i = j := by simpa using e
    subst this
    exact hw i hi
  · exact h.back e (hw i hi)
def SeqC (P : Program) (L : List Oper) (ops : Array Oper) (I : (Nat → Bool) → World → Prop) : Nat → List Oper → Act → (Act → Prop) → Prop
  | _, [], a, K => K a
  | k, o :: l, a, K => ∃ a', (∀ D w, D k = false → (∀ j ∈ Go.Burg.waits o, D j = true) → Closed L D → I D w → wpList P ops (Alone fun a1 w' => a1 = a' ∧ I (fun j => D j || j == k) w') [o] a w) ∧
      a' = a.put o.dst (a'.tmps.getD (o.dst.getD 0) undef) ∧ SeqC P L ops I (k + 1) l a' K
theorem SeqC_spec {L : List Oper} {ops : Array Oper} {I : (Nat → Bool) → World → Prop} {K : Act → Prop} : ∀ (l : List Oper) (k : Nat) (a : Act), SeqC P L ops I k l a K →
    ∃ (xs : Nat → Value) (fr : Nat → Act), fr k = a ∧ (∀ i o, l[i]? = some o → fr (k + i + 1) = (fr (k + i)).put o.dst (xs (k + i)) ∧
      (∀ D w, D (k + i) = false → (∀ j ∈ Go.Burg.waits o, D j = true) → Closed L D → I D w → wpList P ops (Alone fun a1 w' => a1 = fr (k + i + 1) ∧ I (fun j => D j || j == (k + i)) w') [o] (fr (k + i)) w)) ∧ K (fr (k + l.length)) := by
  intro l
  induction l with
  | nil => intro k a h; exact ⟨fun _ => undef, fun _ => a, rfl, by simp, h⟩
  | cons o l ih =>
    intro k a h
    obtain ⟨a', h1, h2, h3⟩ := h
    obtain ⟨xs, fr, hf, hall, hK⟩ := ih (k + 1) a' h3
    refine ⟨fun i => if i = k then a'.tmps.getD (o.dst.getD 0) undef else xs i, fun i => if i = k then a else fr i, by simp, ?_, ?_⟩
    · intro i o' ho
      cases i with
      | zero =>
        simp at ho
        subst ho
        have hne : k + 1 ≠ k := by omega
        simp only [Nat.add_zero, if_true, hne, if_false, hf]
        exact ⟨h2, h1⟩
      | succ i =>
        have := hall i o' (by simpa using ho)
        have e1 : k + (i + 1) = k + 1 + i := by omega
        have n1 : ¬ (k + 1 + i = k) := by omega
        have n2 : ¬ (k + 1 + i + 1 = k) := by omega
        rw [e1]
        simp only [n1, n2, if_false]
        exact this
    · have e1 : k + (o :: l).length = k + 1 + l.length := by simp; omega
      have n1 : ¬ (k + 1 + l.length = k) := by omega
      rw [e1]
      simp only [n1, if_false]
      exact hK
theorem wp_region_seqC {id : Nat} {w0 : World} (m : Nat) (I : (Nat → Bool) → World → Prop) (hm : P.follows .mixedOrders = true) (hg : good m l = true)
    (hlt : (dsts 0 (l.take m)).all (fun p => decide (p.2 < a0.tmps.size)) = true) (h0 : I (fun _ => false) w0.drew)
    (hs : SeqC P l l.toArray I 0 (l.take m) a0 (fun F => ∀ D w, (∀ j, j < m → D j = true) → I D w → wpList P l.toArray Q (l.drop m) F w)) : (Code.region id l.toArray true).wp P Q a0 w0 := by
  have hg' := hg
  simp only [good, Bool.and_eq_true, decide_eq_true_eq] at hg'
  obtain ⟨⟨⟨hg1, hg2⟩, hml⟩, _⟩ := hg'
  have htk : ∀ i, i < m → (l.take m)[i]? = l[i]? := fun i hi => by simp [hi]
  obtain ⟨xs, fr, hf0, hall, hK⟩ := SeqC_spec (l.take m) 0 a0 hs
  have hdis := distinct_spec hg1
  have hmem' : ∀ p ∈ dsts 0 (l.take m), p.1 < m ∧ (l[p.1]?).bind (fun o => o.dst) = some p.2 := fun p hp => by
    obtain ⟨i', o', hi', hj', hd'⟩ := (mem_dsts (l.take m) 0 p.1 p.2).1 hp
    have h1 := (List.getElem?_eq_some_iff.1 hi').1
    simp only [List.length_take] at h1
    have h2 : p.1 = i' := by omega
    rw [htk i' (by omega)] at hi'
    exact ⟨by omega, by rw [h2, hi']; exact hd'⟩
  have hfr : ∀ i, i ≤ m → fr i = fillIf (fun j => decide (j < i)) a0 (dsts 0 (l.take m)) xs := by
    intro i
    induction i with
    | zero =>
      intro _
      rw [hf0]
      have : ∀ (ds : List (Nat × Tmp)) (a : Act), fillIf (fun j => decide (j < 0)) a ds xs = a := by
        intro ds
        induction ds with
        | nil => intro a; rfl
        | cons p ds ih => intro a; obtain ⟨j, d⟩ := p; simp only [fillIf]; exact ih a
      exact (this _ _).symm
    | succ i ih =>
      intro hi
      have hil : i < l.length := by omega
      have ho : (l.take m)[i]? = some l[i] := by rw [htk i (by omega)]; simp [hil]
      have h1 := (hall i l[i] ho).1
      simp only [Nat.zero_add] at h1
      rw [h1, ih (by omega)]
      cases hd : l[i].dst with
      | none =>
        simp only [Act.put]
        refine fillIf_congr _ _ fun p hp => ?_
        have hne : p.1 ≠ i := fun he => by
          have := (hmem' p hp).2
          rw [he] at this
          simp [hil, hd] at this
        constructor
        · simp only [decide_eq_decide]; omega
        · intro _; rfl
      | some d =>
        have := fillIf_set (D := fun j => decide (j < i)) (xs := xs) i (xs i) (dsts 0 (l.take m)) a0 d hdis ((mem_dsts (l.take m) 0 i d).2 ⟨i, l[i], ho, by omega, hd⟩) (by simp)
        rw [← this]
        refine fillIf_congr _ _ fun p _ => ⟨?_, fun _ => ?_⟩
        · by_cases h : p.1 = i
          · simp [h]
          · have hb : (p.1 == i) = false := by simpa using h
            simp only [hb, Bool.or_false, decide_eq_decide]; omega
        · split
          · rename_i h; rw [h]
          · rfl
  have hsz : ∀ (D : Nat → Bool) (ds : List (Nat × Tmp)) (a : Act), (fillIf D a ds xs).tmps.size = a.tmps.size := by
    intro D ds
    induction ds with
    | nil => intro a; rfl
    | cons p ds ih => intro a; obtain ⟨j, d⟩ := p; simp only [fillIf]; rw [ih]; split <;> simp [Act.put]
  refine wp_region_jointC m hm hg (fun D ys w => (∀ j, D j = true → ∀ d, (l[j]?).bind (fun o => o.dst) = some d → ys j = xs j) ∧ I D w) ⟨(fun j hj => by cases hj), h0⟩ ?_ ?_
  · rintro i o him ho D ys w hD hwait hcl ⟨hV, hI⟩
    have ho' : (l.take m)[i]? = some o := by rw [htk i him]; exact ho
    have hok : looksOk l.toArray (dsts 0 (l.take m)) i o = true := by simpa using goodOps_spec (l.take m) 0 hg2 i o ho'
    obtain ⟨hput, hrun⟩ := hall i o ho'
    have h1 := hrun D w (by simpa using hD) hwait hcl hI
    simp only [Nat.zero_add] at h1 hput
    have hstep : DoesG P l.toArray o (fr i) w (fun v w' => (∀ d, o.dst = some d → v = xs i) ∧ I (fun j => D j || j == i) w') := by
      refine Does_of_alone (alone_mono _ _ ?_ h1)
      rintro a w' ⟨rfl, hR⟩
      have hdef : ∀ (b : Act) (d : Option Tmp) (v : Value), (b.put d v).defers = b.defers := fun b d v => by cases d <;> rfl
      refine ⟨by rw [hput, hdef], fun v hv => ⟨fun d hd => ?_, hR⟩⟩
      rw [hput] at hv
      simp only [hd] at hv
      have hmem : (i, d) ∈ dsts 0 (l.take m) := (mem_dsts (l.take m) 0 i d).2 ⟨i, o, ho', by omega, hd⟩
      have hlt' : d < (fr i).tmps.size := by
        rw [hfr i (by omega), hsz]
        have := List.all_eq_true.1 hlt (i, d) hmem
        simpa using this
      have h3 := congrArg (fun b : Act => b.tmps.getD d undef) hv
      simpa [Act.put, hlt'] using h3.symm
    rw [hfr i (by omega)] at hstep
    -- from the frame of the text's order to the frame at hand
    have hok' := hok
    simp only [looksOk, Bool.and_eq_true, List.all_eq_true] at hok'
    have hlooks : ∀ t ∈ o.looksAt l.toArray, ∀ p ∈ dsts 0 (l.take m), t = p.2 → p.1 ∈ Go.Burg.waits o := fun t ht p hp hte => by
      have h1 := hok'.1.1 t ht p hp
      subst hte
      simpa using h1
    have hwi : ∀ j ∈ Go.Burg.waits o, j < i := fun j hj => by
      have := hok'.1.2 j hj
      simpa using this
    have hval : ∀ p ∈ dsts 0 (l.take m), p.1 ∈ Go.Burg.waits o → xs p.1 = ys p.1 := fun p hp hw => (hV p.1 (hwait _ hw) p.2 (hmem' p hp).2).symm
    have hev : ∀ x ∈ o.op.operands, (fillIf (fun j => decide (j < i)) a0 (dsts 0 (l.take m)) xs).eval x = (fill a0 (dsts 0 (l.take m)) ys).eval x := fun x hx => by
      have hl : ∀ p ∈ dsts 0 (l.take m), x = .tmp p.2 → p.1 ∈ Go.Burg.waits o := fun p hp hxe => hlooks p.2 (by
        subst hxe
        exact List.mem_append_left _ (List.mem_filterMap.2 ⟨.tmp p.2, by simpa using hx, rfl⟩)) p hp rfl
      rw [eval_fillIf x _ _ (fun p hp hxe => by simpa using hwi _ (hl p hp hxe))]
      exact eval_fill_congr x _ _ fun p hp hxe => hval p hp (hl p hp hxe)
    have hsel : ∀ cs b, o.op ≠ .select cs b := fun cs b he => by
      have := hok'.2
      rw [he] at this
      cases this
    have hexec := execOp_congr o hsel hev
    have hwant : Region.wanted o (yielded l.toArray (fillIf (fun j => decide (j < i)) a0 (dsts 0 (l.take m)) xs).tmps) = Region.wanted o (yielded l.toArray (fill a0 (dsts 0 (l.take m)) ys).tmps) := by
      unfold Region.wanted
      cases hgd : o.guard with
      | none => rfl
      | some gw =>
        obtain ⟨g, want⟩ := gw
        simp only []
        have hl : ∀ d, (l.toArray[g]?).bind (fun o => o.dst) = some d → ∀ p ∈ dsts 0 (l.take m), (.tmp d : Operand) = .tmp p.2 → p.1 ∈ Go.Burg.waits o := fun d hd p hp hpe => hlooks p.2 (by
          refine List.mem_append_right _ ?_
          simp only [hgd]
          have hpd : d = p.2 := by cases hpe; rfl
          rw [hd, hpd]
          simp) p hp rfl
        have hy : yielded l.toArray (fillIf (fun j => decide (j < i)) a0 (dsts 0 (l.take m)) xs).tmps g = yielded l.toArray (fill a0 (dsts 0 (l.take m)) ys).tmps g := yielded_eval (fun d hd => by
          rw [eval_fillIf (.tmp d) _ _ (fun p hp hpe => by simpa using hwi _ (hl d hd p hp hpe))]
          exact eval_fill_congr (.tmp d) _ _ fun p hp hpe => hval p hp (hl d hd p hp hpe))
        rw [hy]
    have fin : ∀ v w', ((∀ d, o.dst = some d → v = xs i) ∧ I (fun j => D j || j == i) w') → ((∀ j, (D j || j == i) = true → ∀ d, (l[j]?).bind (fun o => o.dst) = some d → (if j = i then v else ys j) = xs j) ∧ I (fun j => D j || j == i) w') := fun v w' h =>
      ⟨fun j hj d hd => by
        by_cases e : j = i
        · subst e
          simp only [if_true]
          exact h.1 d (by simpa [ho] using hd)
        · have hj2 : D j = true := by simpa [e] using hj
          simp only [e, if_false]
          exact hV j hj2 d hd, h.2⟩
    unfold DoesG Does at *
    rw [hwant, hexec] at hstep
    split
    · rename_i hw
      rw [if_pos hw] at hstep
      generalize (execOp (fill a0 (dsts 0 (l.take m)) ys).eval o).run P w = r at *
      cases r with
      | ok n w' =>
        cases n <;> simp only [] at hstep ⊢
        case value v => exact fin _ _ hstep
        case skip => exact fin _ _ hstep
        case enter f args => exact Calls.mono hstep fun e w'' ⟨v, he, hv⟩ => ⟨v, he, fin _ _ hv⟩
        case row row args => exact Rows.mono hstep fun v w'' hv => fin _ _ hv
      | halt x w' => exact hstep
    · rename_i hw
      rw [if_neg hw] at hstep
      exact fin _ _ hstep
  · rintro D ys w hD ⟨hV, hI⟩
    have hlen : (l.take m).length = m := by simp; omega
    rw [hlen, Nat.zero_add, hfr m (Nat.le_refl _)] at hK
    rw [fill_congr (xs' := xs)]
    · rw [fillIf_all _ _ (fun p hp => by simpa using (hmem' p hp).1)] at hK
      exact hK D w hD hI
    · intro p hp
      exact hV p.1 (hD p.1 (hmem' p hp).1) p.2 (hmem' p hp).2
theorem SeqC.calm {L : List Oper} {ops : Array Oper} {S : Bool → Bool → World → Prop} {c d k : Nat} {o : Oper} {r : List Oper} {a a' : Act} {K : Act → Prop} (hc : c ≠ k) (hd : d ≠ k)
    (h : ∀ b1 b2 w, (behind L c k = true → b1 = false) → ((Go.Burg.waits o).any (fun i => i == c || behind L i c) = true → b1 = true) → (behind L d k = true → b2 = false) → ((Go.Burg.waits o).any (fun i => i == d || behind L i d) = true → b2 = true) → S b1 b2 w → wpList P ops (Alone fun a1 w' => a1 = a' ∧ S b1 b2 w') [o] a w)
    (hp : a' = a.put o.dst (a'.tmps.getD (o.dst.getD 0) undef)) (k1 : SeqC P L ops (Turn2 c d S) (k + 1) r a' K) : SeqC P L ops (Turn2 c d S) k (o :: r) a K :=
  ⟨a', fun D w hDk hw hcl hI => alone_mono _ _ (by
    rintro a1 w' ⟨rfl, h1⟩
    refine ⟨rfl, ?_⟩
    unfold Turn2
    have e1 : (c == k) = false := by simpa using hc
    have e2 : (d == k) = false := by simpa using hd
    simpa [e1, e2] using h1) (h _ _ w (fun e => hcl.ahead e hDk) (fun e => hcl.of_waits hw e) (fun e => hcl.ahead e hDk) (fun e => hcl.of_waits hw e) hI), hp, k1⟩
theorem SeqC.fst {L : List Oper} {ops : Array Oper} {S : Bool → Bool → World → Prop} {c d : Nat} {o : Oper} {r : List Oper} {a a' : Act} {K : Act → Prop} (hd : d ≠ c)
    (h : ∀ b2 w, (behind L d c = true → b2 = false) → ((Go.Burg.waits o).any (fun i => i == d || behind L i d) = true → b2 = true) → S false b2 w → wpList P ops (Alone fun a1 w' => a1 = a' ∧ S true b2 w') [o] a w)
    (hp : a' = a.put o.dst (a'.tmps.getD (o.dst.getD 0) undef)) (k1 : SeqC P L ops (Turn2 c d S) (c + 1) r a' K) : SeqC P L ops (Turn2 c d S) c (o :: r) a K :=
  ⟨a', fun D w hD hw hcl hI => alone_mono _ _ (by
    rintro a1 w' ⟨rfl, h1⟩
    refine ⟨rfl, ?_⟩
    unfold Turn2
    have e2 : (d == c) = false := by simpa using hd
    simpa [e2] using h1) (h (D d) w (fun e => hcl.ahead e hD) (fun e => hcl.of_waits hw e) (by unfold Turn2 at hI; rw [hD] at hI; exact hI)), hp, k1⟩
theorem SeqC.snd {L : List Oper} {ops : Array Oper} {S : Bool → Bool → World → Prop} {c d : Nat} {o : Oper} {r : List Oper} {a a' : Act} {K : Act → Prop} (hc : c ≠ d)
    (h : ∀ b1 w, (behind L c d = true → b1 = false) → ((Go.Burg.waits o).any (fun i => i == c || behind L i c) = true → b1 = true) → S b1 false w → wpList P ops (Alone fun a1 w' => a1 = a' ∧ S b1 true w') [o] a w)
    (hp : a' = a.put o.dst (a'.tmps.getD (o.dst.getD 0) undef)) (k1 : SeqC P L ops (Turn2 c d S) (d + 1) r a' K) : SeqC P L ops (Turn2 c d S) d (o :: r) a K :=
  ⟨a', fun D w hD hw hcl hI => alone_mono _ _ (by
    rintro a1 w' ⟨rfl, h1⟩
    refine ⟨rfl, ?_⟩
    unfold Turn2
    have e2 : (c == d) = false := by simpa using hc
    simpa [e2] using h1) (h (D c) w (fun e => hcl.ahead e hD) (fun e => hcl.of_waits hw e) (by unfold Turn2 at hI; rw [hD] at hI; exact hI)), hp, k1⟩
theorem SeqC.nil {L : List Oper} {ops : Array Oper} {I : (Nat → Bool) → World → Prop} {k : Nat} {a : Act} {K : Act → Prop} (h : K a) : SeqC P L ops I k [] a K := h
end
end Go.Burg
