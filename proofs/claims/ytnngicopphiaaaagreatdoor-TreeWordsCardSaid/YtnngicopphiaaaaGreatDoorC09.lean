/- Part 9 of 51 of a proof: lemmas on the functions that it reaches. -/
import Derived.Test.YtnngicopphiaaaaGreatDoorC02
import Derived.RangeFuncNested
import Derived.OrdersIn
import Derived.TacticsIn
import Derived.Test.YtnngicopphiaaaaGreatDoorC05
namespace Go.Burg
open Go
structure FOk (F : Fence) (P : Program) : Prop where
  fn : ∀ f, F.fn f
  dep : F.depth = none
  calls : ∀ (n : Nat) (f : FuncId) (args : Array Value) (w : World) (R : Ending → World → Prop), Calls P f args w R → CallsIn F n P f args w R
  rows : ∀ (n : Nat) (row : String) (args : Array Value) (w : World) (R : Value → World → Prop), Rows P row args w R → RowsIn F n P row args w R
theorem fok_wide (P : Program) : FOk Fence.wide P := ⟨fun _ => trivial, rfl, fun _ _ _ _ _ h => callsIn_wide.2 h, fun _ _ _ _ _ h => fun c cs _ => by
  obtain ⟨v, w', r, s⟩ := h c cs
  exact ⟨v, w', r, stepsIn_wide.2 s⟩⟩
theorem fok_round (P : Program) (L : Nat) : FOk (Fence.wide.inRound L) P := ⟨fun _ => trivial, rfl, fun _ _ _ _ _ h => CallsIn.inRound L (callsIn_wide.2 h), fun _ _ _ _ _ h => fun c cs _ => by
  obtain ⟨v, w', r, s⟩ := h c cs
  exact ⟨v, w', r, stepsIn_wide.2 s⟩⟩
def noDefer (l : List Oper) : Bool := l.all fun o => match o.op with | .defer _ => false | _ => true
section
variable {P : Program} {l : List Oper} {Q : Exit → Act → World → Prop} {a0 : Act}
theorem Does.uponIn {F : Fence} {n : Nat} {o : Oper} {a : Act} {w : World} {G : Value → World → Prop} {K : Act → World → Prop} {Q : Exit → Act → World → Prop} (HF : FOk F P) (hd : ∀ c, o.op ≠ .defer c)
    (h : Does P o a.eval w G) (hk : ∀ v w', G v w' → K (a.put o.dst v) w') : o.wpIn F n P a w K Q := by
  refine ⟨fun f _ => HF.fn f, ?_⟩
  unfold Does at h
  rw [Oper.semAt_eq _ _ _ hd]
  generalize (execOp a.eval o).run P w = r at *
  cases r with
  | ok x w' =>
    cases x <;> simp only [Oper.uponIn] at h ⊢ <;> first | exact hk _ _ h | skip
    case enter f args =>
      refine ⟨fun e => (by rw [HF.dep] at e; cases e), (HF.calls _ _ _ _ _ h).mono fun e w'' he => ?_⟩
      obtain ⟨v, rfl, hv⟩ := he
      exact hk _ _ hv
    case row row args => exact ⟨fun e => (by rw [HF.dep] at e; cases e), RowsIn.mono (HF.rows _ _ _ _ _ h) fun v w'' hv => hk _ _ hv⟩
    all_goals exact h.elim
  | halt x w' => exact h.elim
theorem rgn_inv {id n : Nat} {F : Fence} {w0 : World} (HF : FOk F P) (hnd : noDefer l = true) (m : Nat) (hm : P.follows .mixedOrders = true) (hg : good m l = true)
    (V : Nat → Value → World → Prop) (I : (Nat → Bool) → World → Prop) (h0 : I (fun _ => false) w0.drew)
    (hs : ∀ i o, i < m → l[i]? = some o → ∀ (D : Nat → Bool) (xs : Nat → Value) (w : World), D i = false → (∀ j ∈ waits o, D j = true) → (∀ j, D j = true → V j (xs j) w) → I D w →
      DoesG P l.toArray o (fill a0 (dsts 0 (l.take m)) xs) w fun v w' => V i v w' ∧ (∀ j, D j = true → V j (xs j) w') ∧ I (fun j => D j || j == i) w')
    (hend : ∀ (D : Nat → Bool) (xs : Nat → Value) (w : World), (∀ j, j < m → D j = true) → (∀ j, j < m → V j (xs j) w) → I D w → wpListIn F n P l.toArray Q (l.drop m) (fill a0 (dsts 0 (l.take m)) xs) w) :
    (Code.region id l.toArray true).wpIn F n P Q a0 w0 := by
  simp only [good, Bool.and_eq_true, decide_eq_true_eq, List.all_eq_true, List.mem_range] at hg
  obtain ⟨⟨⟨hg1, hg2⟩, hml⟩, hg4⟩ := hg
  have hdis := distinct_spec hg1
  have htk : ∀ i, i < m → (l.take m)[i]? = l[i]? := fun i hi => by simp [hi]
  have hok : ∀ i o, i < m → l[i]? = some o → looksOk l.toArray (dsts 0 (l.take m)) i o = true := fun i o hi h => by simpa using goodOps_spec (l.take m) 0 hg2 i o (by rw [htk i hi]; exact h)
  have hwlt : ∀ i o, l[i]? = some o → ∀ j ∈ waits o, j < i := fun i o ho j hj => by
    have hlt := (List.getElem?_eq_some_iff.1 ho).1
    have := (hg4 i hlt).1
    rw [ho] at this
    simpa using this j (by simpa using hj)
  have htail : ∀ i, i < l.length → m ≤ i → tailOk l i = true := fun i hi hmi => by
    have := (hg4 i hi).2
    rcases Bool.or_eq_true_iff.1 this with h | h
    · simp at h; omega
    · exact h
  refine wpIn_region_any hm ?_
  have hndo : ∀ (i : Nat) (o : Oper), l[i]? = some o → ∀ c, o.op ≠ .defer c := fun i o ho c hc => by
    have := List.all_eq_true.1 hnd o (List.mem_of_getElem? ho)
    rw [hc] at this
    cases this
  -- the row behind number m
  have row : ∀ (fuel : Nat) (listed : Array Bool) (a : Act) (w : World) (k : Nat), listed.size = l.length → k + fuel = l.length → m ≤ k → (∀ j, j < k → listed.getD j false = true) → (∀ j, k ≤ j → listed.getD j false = false) →
      wpListIn F n P l.toArray Q (l.drop k) a w → wpAnyIn F n P .any l.toArray Q fuel listed a w := by
    intro fuel
    induction fuel with
    | zero =>
      intro listed a w k hsz hk hmk hlo hhi h
      have hnil : Region.ready .any l.toArray listed = [] := by
        cases hr : Region.ready .any l.toArray listed with
        | nil => rfl
        | cons i r =>
          have hi : i ∈ Region.ready .any l.toArray listed := by rw [hr]; simp
          obtain ⟨h1, o, ho, _⟩ := mem_ready.1 hi
          have hlt : i < l.length := by
            have := (Array.getElem?_eq_some_iff.1 ho).1
            simpa using this
          have h2 := hlo i (by omega)
          have hlt' : i < listed.size := hsz ▸ hlt
          simp [hlt'] at h1 h2
          rw [h1] at h2; cases h2
      refine ⟨hnil, ?_⟩
      rw [List.drop_eq_nil_of_le (by omega)] at h
      exact h
    | succ fuel ih =>
      intro listed a w k hsz hk hmk hlo hhi h
      have hkl : k < l.length := by omega
      have honly : ∀ i ∈ Region.ready .any l.toArray listed, i = k := fun i hi => by
        obtain ⟨h1, o, ho, hall⟩ := mem_ready.1 hi
        have hlt : i < l.length := by
          have := (Array.getElem?_eq_some_iff.1 ho).1
          simpa using this
        have hlt' : i < listed.size := hsz ▸ hlt
        have hun : listed.getD i false = false := by simpa [hlt'] using h1
        have hik : k ≤ i := by
          rcases Nat.lt_or_ge i k with hh | hh
          · rw [hlo i hh] at hun; cases hun
          · exact hh
        have hD := tailOk_spec (htail i hlt (by omega)) (fun j => listed.getD j false) (fun k' o' hk' hor j hj => by
          rcases hor with hor | rfl
          · have hkk : k' < k := by
              rcases Nat.lt_or_ge k' k with hh | hh
              · exact hh
              · have h7 := hhi k' hh
                have h8 : listed.getD k' false = true := hor
                rw [h7] at h8; cases h8
            have := hwlt k' o' hk' j hj
            exact hlo j (by omega)
          · have ho2 : l[k']? = some o := by simpa using ho
            rw [ho2] at hk'
            cases hk'
            obtain ⟨e, he, hb, rfl⟩ := waits_mem.1 hj
            exact hall e he hb)
        rcases Nat.lt_or_ge k i with hh | hh
        · have h5 := hD k hh
          have h6 := hhi k (Nat.le_refl _)
          have h8 : listed.getD k false = true := h5
          rw [h6] at h8; cases h8
        · omega
      have hkf : listed.getD k true = false := by
        have h6 := hhi k (Nat.le_refl _)
        have hlt' : k < listed.size := hsz ▸ hkl
        simpa [hlt'] using h6
      have hkr : k ∈ Region.ready .any l.toArray listed := mem_ready.2 ⟨hkf, l[k], by simp [hkl], fun e he hb =>
        hlo e.on (hwlt k l[k] (by simp [hkl]) e.on (waits_mem.2 ⟨e, he, hb, rfl⟩))⟩
      refine ⟨fun hr => (by rw [hr] at hkr; cases hkr), fun i hi => ?_⟩
      obtain rfl := honly i hi
      rw [List.drop_eq_getElem_cons hkl] at h
      have hih : ∀ a w, wpListIn F n P l.toArray Q (l.drop (i + 1)) a w → wpAnyIn F n P .any l.toArray Q fuel (listed.setIfInBounds i true) a w := fun a w h' =>
        ih _ a w (i + 1) (by simpa using hsz) (by omega) (by omega) (fun j hj => by
          have hlt' : i < listed.size := hsz ▸ hkl
          by_cases hji : j = i
          · subst hji; simp [hlt']
          · have hij : i ≠ j := fun h => hji h.symm
            simpa [Array.getElem?_setIfInBounds_ne hij] using hlo j (by omega)) (fun j hj => by
          have hij : i ≠ j := by omega
          simpa [Array.getElem?_setIfInBounds_ne hij] using hhi j (by omega)) h'
      unfold wpOpIn
      have ho : l.toArray[i]? = some l[i] := by simp [hkl]
      simp only [ho]
      unfold wpListIn at h
      split
      · rename_i hw
        rw [if_pos hw] at h
        exact Oper.wpIn_mono hih h
      · rename_i hw
        rw [if_neg hw] at h
        exact ⟨h.1, hih _ _ h.2⟩
  have main : ∀ (fuel : Nat) (listed : Array Bool) (xs : Nat → Value) (w : World), listed.size = l.length → left listed = fuel →
      (∀ j, m ≤ j → listed.getD j false = false) → (∀ k o, l[k]? = some o → listed.getD k false = true → ∀ j ∈ waits o, listed.getD j false = true) →
      (∀ j, listed.getD j false = true → V j (xs j) w) → I (fun j => listed.getD j false) w →
      wpAnyIn F n P .any l.toArray Q fuel listed (fillIf (fun j => listed.getD j false) a0 (dsts 0 (l.take m)) xs) w := by
    intro fuel
    induction fuel with
    | zero =>
      intro listed xs w hsz hl hhi hcl hV hI
      have hall : ∀ j, j < l.length → listed.getD j false = true := fun j hj => left_zero hl j (hsz ▸ hj)
      have hmeq : m = l.length := by
        rcases Nat.lt_or_ge m l.length with h | h
        · have h1 := hall m h
          rw [hhi m (Nat.le_refl _)] at h1; cases h1
        · omega
      refine row 0 listed _ w l.length hsz (by omega) (by omega) hall (fun j hj => hhi j (by omega)) ?_
      rw [fillIf_all _ _ (fun p hp => by
        obtain ⟨i, o, hi, hj, _⟩ := (mem_dsts (l.take m) 0 p.1 p.2).1 hp
        have := (List.getElem?_eq_some_iff.1 hi).1
        simp only [List.length_take] at this
        exact hall p.1 (by omega))]
      have := hend _ xs w (fun j hj => hall j (by omega)) (fun j hj => hV j (hall j (by omega))) hI
      rw [hmeq] at this ⊢
      exact this
    | succ fuel ih =>
      intro listed xs w hsz hl hhi hcl hV hI
      by_cases hfront : ∀ j, j < m → listed.getD j false = true
      · -- all of the first m are done: the row begins
        have hcount : left listed = l.length - m := by
          obtain ⟨lst⟩ := listed
          simp only [left]
          have hsz' : lst.length = l.length := by simpa using hsz
          have e1 : lst = List.replicate m true ++ List.replicate (l.length - m) false := by
            apply List.ext_getElem
            · simp; omega
            · intro i h1 h2
              by_cases him : i < m
              · have := hfront i him
                simp [h1] at this
                simp [him, this]
              · have := hhi i (by omega)
                simp [h1] at this
                rw [List.getElem_append_right (by simpa using him)]
                simp [this]
          rw [e1]
          simp [List.countP_replicate]
        refine row (fuel + 1) listed _ w m hsz (by omega) (Nat.le_refl _) hfront hhi ?_
        rw [fillIf_all _ _ (fun p hp => by
          obtain ⟨i, o, hi, hj, _⟩ := (mem_dsts (l.take m) 0 p.1 p.2).1 hp
          have := (List.getElem?_eq_some_iff.1 hi).1
          simp only [List.length_take] at this
          exact hfront p.1 (by omega))]
        exact hend _ xs w hfront (fun j hj => hV j (hfront j hj)) hI
      refine ⟨fun hr => ?_, fun i hi => ?_⟩
      · exfalso
        obtain ⟨i, hi, hmin⟩ := least_unlisted (listed := listed) (by omega)
        have hlt : i < listed.size := by
          rcases Nat.lt_or_ge i listed.size with h' | h'
          · exact h'
          · simp [Array.getElem?_eq_none h'] at hi
        have hlt2 : i < l.length := hsz ▸ hlt
        have : i ∈ Region.ready .any l.toArray listed := mem_ready.2 ⟨hi, l[i], by simp [hlt2], fun e he hb => by
          have h3 := hwlt i l[i] (by simp [hlt2]) e.on (waits_mem.2 ⟨e, he, hb, rfl⟩)
          have h4 := hmin e.on h3
          have h5 : e.on < listed.size := by omega
          simpa [h5] using h4⟩
        rw [hr] at this
        cases this
      · obtain ⟨hun, o, ho, hall⟩ := mem_ready.1 hi
        have ho' : l[i]? = some o := by simpa using ho
        have hi2 : i < listed.size := by
          rcases Nat.lt_or_ge i listed.size with h' | h'
          · exact h'
          · simp [Array.getElem?_eq_none h'] at hun
        have hDi : listed.getD i false = false := by simpa [hi2] using hun
        have hwait : ∀ j ∈ waits o, listed.getD j false = true := fun j hj => by
          obtain ⟨e, he, hb, rfl⟩ := waits_mem.1 hj
          exact hall e he hb
        have him : i < m := by
          rcases Nat.lt_or_ge i m with h | h
          · exact h
          · exfalso
            have hD := tailOk_spec (htail i (hsz ▸ hi2) h) (fun j => listed.getD j false) (fun k' o' hk' hor j hj => by
              rcases hor with hor | rfl
              · exact hcl k' o' hk' hor j hj
              · rw [ho'] at hk'
                cases hk'
                exact hwait j hj)
            exact hfront fun j hj => hD j (by omega)
        have hlk := hok i o him ho'
        simp only [looksOk, Bool.and_eq_true, List.all_eq_true] at hlk
        have hlooks : ∀ t ∈ o.looksAt l.toArray, ∀ p ∈ dsts 0 (l.take m), t = p.2 → listed.getD p.1 false = true := fun t ht p hp hte => by
          have h1 := hlk.1.1 t ht p hp
          subst hte
          have h2 : p.1 ∈ waits o := by simpa using h1
          exact hwait _ h2
        have hev : ∀ x ∈ o.op.operands, (fillIf (fun j => listed.getD j false) a0 (dsts 0 (l.take m)) xs).eval x = (fill a0 (dsts 0 (l.take m)) xs).eval x := fun x hx =>
          eval_fillIf x _ _ fun p hp hxe => hlooks p.2 (by
            subst hxe
            exact List.mem_append_left _ (List.mem_filterMap.2 ⟨.tmp p.2, by simpa using hx, rfl⟩)) p hp rfl
        have hsel : ∀ cs b, o.op ≠ .select cs b := fun cs b he => by
          have := hlk.2
          rw [he] at this
          cases this
        have hexec := execOp_congr o hsel hev
        have hwant : Region.wanted o (yielded l.toArray (fillIf (fun j => listed.getD j false) a0 (dsts 0 (l.take m)) xs).tmps) = Region.wanted o (yielded l.toArray (fill a0 (dsts 0 (l.take m)) xs).tmps) := by
          unfold Region.wanted
          cases hgd : o.guard with
          | none => rfl
          | some gw =>
            obtain ⟨g, want⟩ := gw
            simp only []
            rw [yielded_eval (fun d hd => eval_fillIf (.tmp d) _ _ fun p hp hpe => hlooks p.2 (by
              refine List.mem_append_right _ ?_
              simp only [hgd]
              have hpd : d = p.2 := by cases hpe; rfl
              rw [hd, hpd]
              simp) p hp rfl)]
        have hstep := hs i o him ho' (fun j => listed.getD j false) xs w hDi hwait hV hI
        have hput : ∀ v w', (V i v w' ∧ (∀ j, listed.getD j false = true → V j (xs j) w') ∧ I (fun j => listed.getD j false || j == i) w') →
            wpAnyIn F n P .any l.toArray Q fuel (listed.setIfInBounds i true) ((fillIf (fun j => listed.getD j false) a0 (dsts 0 (l.take m)) xs).put o.dst v) w' := by
          rintro v w' ⟨hv, hVs, hI'⟩
          have hD' : (fun j => (listed.setIfInBounds i true).getD j false) = (fun j => listed.getD j false || j == i) := by
            funext j
            by_cases hji : j = i
            · subst hji; simp [hi2]
            · have hij : i ≠ j := fun h => hji h.symm
              simp [Array.getElem?_setIfInBounds_ne hij, hji]
          have hfr : (fillIf (fun j => listed.getD j false) a0 (dsts 0 (l.take m)) xs).put o.dst v = fillIf (fun j => (listed.setIfInBounds i true).getD j false) a0 (dsts 0 (l.take m)) (fun j => if j = i then v else xs j) := by
            rw [hD']
            cases hdst : o.dst with
            | none =>
              simp only [Act.put]
              refine fillIf_congr _ _ fun p hp => ?_
              obtain ⟨i', o', hi', hj', hd'⟩ := (mem_dsts (l.take m) 0 p.1 p.2).1 hp
              have hne : p.1 ≠ i := fun he => by
                have : i' = i := by omega
                subst this
                rw [htk i' him, ho'] at hi'
                cases hi'
                rw [hdst] at hd'
                cases hd'
              simp [hne]
            | some d =>
              exact (fillIf_set i v _ a0 d hdis ((mem_dsts (l.take m) 0 i d).2 ⟨i, o, by rw [htk i him]; exact ho', by omega, hdst⟩) hDi).symm
          rw [hfr]
          have hmono : ∀ j, listed.getD j false = true → (listed.setIfInBounds i true).getD j false = true := fun j hj => getD_set_true hj
          refine ih _ _ _ (by simpa using hsz) (by have := left_set hun; omega) (fun j hj => ?_) (fun k o' hk hlk' j hj => ?_) (fun j hj => ?_) ?_
          · have hij : i ≠ j := by omega
            simpa [Array.getElem?_setIfInBounds_ne hij] using hhi j hj
          · by_cases hki : k = i
            · subst hki
              rw [ho'] at hk; cases hk
              exact hmono j (hwait j hj)
            · have hik : i ≠ k := fun h => hki h.symm
              exact hmono j (hcl k o' hk (by simpa [Array.getElem?_setIfInBounds_ne hik] using hlk') j hj)
          · by_cases hji : j = i
            · subst hji; simpa using hv
            · simp only [hji, if_false]
              refine hVs j ?_
              have hij : i ≠ j := fun h => hji h.symm
              simpa [Array.getElem?_setIfInBounds_ne hij] using hj
          · rw [hD']; exact hI'
        unfold wpOpIn
        simp only [ho]
        unfold DoesG at hstep
        rw [hwant]
        split
        · rename_i hw
          rw [if_pos hw] at hstep
          refine Does.uponIn HF (hndo i o ho') ?_ hput
          unfold Does at hstep ⊢
          rw [hexec]
          exact hstep
        · rename_i hw
          rw [if_neg hw] at hstep
          exact ⟨fun f _ => HF.fn f, hput _ _ hstep⟩
  have hrep : ∀ j, (Array.replicate l.length false).getD j false = false := fun j => by
    by_cases h : j < l.length <;> simp [h]
  have hstart := main l.length (Array.replicate l.length false) (fun _ => undef) w0.drew (by simp) (by simp [left, List.countP_replicate]) (fun j _ => hrep j) (fun k o _ h => by rw [hrep] at h; cases h)
    (fun j hj => by rw [hrep] at hj; cases hj) (by
      have : (fun j => (Array.replicate l.length false).getD j false) = fun _ => false := funext hrep
      rw [this]; exact h0)
  have hfr0 : fillIf (fun j => (Array.replicate l.length false).getD j false) a0 (dsts 0 (l.take m)) (fun _ => undef) = a0 := by
    have : ∀ (ds : List (Nat × Tmp)) (a : Act), fillIf (fun j => (Array.replicate l.length false).getD j false) a ds (fun _ => undef) = a := by
      intro ds
      induction ds with
      | nil => intro a; rfl
      | cons p ds ih =>
        intro a
        obtain ⟨j, d⟩ := p
        simp only [fillIf]
        rw [hrep j]
        exact ih a
    exact this _ _
  rw [hfr0] at hstart
  simpa using hstart
theorem rgn_seqI {id n : Nat} {F : Fence} {w0 : World} (HF : FOk F P) (hnd : noDefer l = true) (m : Nat) (I : (Nat → Bool) → World → Prop) (hm : P.follows .mixedOrders = true) (hg : good m l = true)
    (hlt : (dsts 0 (l.take m)).all (fun p => decide (p.2 < a0.tmps.size)) = true) (h0 : I (fun _ => false) w0.drew)
    (hs : SeqI P l.toArray I 0 (l.take m) a0 (fun A => ∀ D w, (∀ j, j < m → D j = true) → I D w → wpListIn F n P l.toArray Q (l.drop m) A w)) : (Code.region id l.toArray true).wpIn F n P Q a0 w0 := by
  have hg' := hg
  simp only [good, Bool.and_eq_true, decide_eq_true_eq] at hg'
  obtain ⟨⟨⟨hg1, hg2⟩, hml⟩, _⟩ := hg'
  have htk : ∀ i, i < m → (l.take m)[i]? = l[i]? := fun i hi => by simp [hi]
  obtain ⟨xs, fr, hf0, hall, hK⟩ := SeqI_spec (l.take m) 0 a0 hs
  have hdis := distinct_spec hg1
  have hmem' : ∀ p ∈ dsts 0 (l.take m), p.1 < m ∧ (l[p.1]?).bind (fun o => o.dst) = some p.2 := fun p hp => by
    obtain ⟨i', o', hi', hj', hd'⟩ := (mem_dsts (l.take m) 0 p.1 p.2).1 hp
    have h1 := (List.getElem?_eq_some_iff.1 hi').1
    simp only [List.length_take] at h1
    have h2 : p.1 = i' := by omega
    rw [htk i' (by omega)] at hi'
    exact ⟨by omega, by rw [h2, hi']; exact hd'⟩
  have hfr : ∀ i, i ≤ m → fr i = fillIf (fun j => decide (j < i)) a0 (dsts 0 (l.take m)) xs := by
    intro i
    induction i with
    | zero =>
      intro _
      rw [hf0]
      have : ∀ (ds : List (Nat × Tmp)) (a : Act), fillIf (fun j => decide (j < 0)) a ds xs = a := by
        intro ds
        induction ds with
        | nil => intro a; rfl
        | cons p ds ih => intro a; obtain ⟨j, d⟩ := p; simp only [fillIf]; exact ih a
      exact (this _ _).symm
    | succ i ih =>
      intro hi
      have hil : i < l.length := by omega
      have ho : (l.take m)[i]? = some l[i] := by rw [htk i (by omega)]; simp [hil]
      have h1 := (hall i l[i] ho).1
      simp only [Nat.zero_add] at h1
      rw [h1, ih (by omega)]
      cases hd : l[i].dst with
      | none =>
        simp only [Act.put]
        refine fillIf_congr _ _ fun p hp => ?_
        have hne : p.1 ≠ i := fun he => by
          have := (hmem' p hp).2
          rw [he] at this
          simp [hil, hd] at this
        constructor
        · simp only [decide_eq_decide]; omega
        · intro _; rfl
      | some d =>
        have := fillIf_set (D := fun j => decide (j < i)) (xs := xs) i (xs i) (dsts 0 (l.take m)) a0 d hdis ((mem_dsts (l.take m) 0 i d).2 ⟨i, l[i], ho, by omega, hd⟩) (by simp)
        rw [← this]
        refine fillIf_congr _ _ fun p _ => ⟨?_, fun _ => ?_⟩
        · by_cases h : p.1 = i
          · simp [h]
          · have hb : (p.1 == i) = false := by simpa using h
            simp only [hb, Bool.or_false, decide_eq_decide]; omega
        · split
          · rename_i h; rw [h]
          · rfl
  have hsz : ∀ (D : Nat → Bool) (ds : List (Nat × Tmp)) (a : Act), (fillIf D a ds xs).tmps.size = a.tmps.size := by
    intro D ds
    induction ds with
    | nil => intro a; rfl
    | cons p ds ih => intro a; obtain ⟨j, d⟩ := p; simp only [fillIf]; rw [ih]; split <;> simp [Act.put]
  refine rgn_inv HF hnd m hm hg (fun j v _ => ∀ d, (l[j]?).bind (fun o => o.dst) = some d → v = xs j) I h0 ?_ ?_
  · intro i o him ho D ys w hD hwait hV hI
    have ho' : (l.take m)[i]? = some o := by rw [htk i him]; exact ho
    have hok : looksOk l.toArray (dsts 0 (l.take m)) i o = true := by simpa using goodOps_spec (l.take m) 0 hg2 i o ho'
    obtain ⟨hput, hrun⟩ := hall i o ho'
    have h1 := hrun D w (by simpa using hD) hwait hI
    simp only [Nat.zero_add] at h1 hput
    have hstep : DoesG P l.toArray o (fr i) w (fun v w' => (∀ d, o.dst = some d → v = xs i) ∧ I (fun j => D j || j == i) w') := by
      refine Does_of_alone (alone_mono _ _ ?_ h1)
      rintro a w' ⟨rfl, hR⟩
      have hdef : ∀ (b : Act) (d : Option Tmp) (v : Value), (b.put d v).defers = b.defers := fun b d v => by cases d <;> rfl
      refine ⟨by rw [hput, hdef], fun v hv => ⟨fun d hd => ?_, hR⟩⟩
      rw [hput] at hv
      simp only [hd] at hv
      have hmem : (i, d) ∈ dsts 0 (l.take m) := (mem_dsts (l.take m) 0 i d).2 ⟨i, o, ho', by omega, hd⟩
      have hlt' : d < (fr i).tmps.size := by
        rw [hfr i (by omega), hsz]
        have := List.all_eq_true.1 hlt (i, d) hmem
        simpa using this
      have h3 := congrArg (fun b : Act => b.tmps.getD d undef) hv
      simpa [Act.put, hlt'] using h3.symm
    rw [hfr i (by omega)] at hstep
    -- from the frame of the text's order to the frame at hand
    have hok' := hok
    simp only [looksOk, Bool.and_eq_true, List.all_eq_true] at hok'
    have hlooks : ∀ t ∈ o.looksAt l.toArray, ∀ p ∈ dsts 0 (l.take m), t = p.2 → p.1 ∈ waits o := fun t ht p hp hte => by
      have h1 := hok'.1.1 t ht p hp
      subst hte
      simpa using h1
    have hwi : ∀ j ∈ waits o, j < i := fun j hj => by
      have := hok'.1.2 j hj
      simpa using this
    have hval : ∀ p ∈ dsts 0 (l.take m), p.1 ∈ waits o → xs p.1 = ys p.1 := fun p hp hw => (hV p.1 (hwait _ hw) p.2 (hmem' p hp).2).symm
    have hev : ∀ x ∈ o.op.operands, (fillIf (fun j => decide (j < i)) a0 (dsts 0 (l.take m)) xs).eval x = (fill a0 (dsts 0 (l.take m)) ys).eval x := fun x hx => by
      have hl : ∀ p ∈ dsts 0 (l.take m), x = .tmp p.2 → p.1 ∈ waits o := fun p hp hxe => hlooks p.2 (by
        subst hxe
        exact List.mem_append_left _ (List.mem_filterMap.2 ⟨.tmp p.2, by simpa using hx, rfl⟩)) p hp rfl
      rw [eval_fillIf x _ _ (fun p hp hxe => by simpa using hwi _ (hl p hp hxe))]
      exact eval_fill_congr x _ _ fun p hp hxe => hval p hp (hl p hp hxe)
    have hsel : ∀ cs b, o.op ≠ .select cs b := fun cs b he => by
      have := hok'.2
      rw [he] at this
      cases this
    have hexec := execOp_congr o hsel hev
    have hwant : Region.wanted o (yielded l.toArray (fillIf (fun j => decide (j < i)) a0 (dsts 0 (l.take m)) xs).tmps) = Region.wanted o (yielded l.toArray (fill a0 (dsts 0 (l.take m)) ys).tmps) := by
      unfold Region.wanted
      cases hgd : o.guard with
      | none => rfl
      | some gw =>
        obtain ⟨g, want⟩ := gw
        simp only []
        have hl : ∀ d, (l.toArray[g]?).bind (fun o => o.dst) = some d → ∀ p ∈ dsts 0 (l.take m), (.tmp d : Operand) = .tmp p.2 → p.1 ∈ waits o := fun d hd p hp hpe => hlooks p.2 (by
          refine List.mem_append_right _ ?_
          simp only [hgd]
          have hpd : d = p.2 := by cases hpe; rfl
          rw [hd, hpd]
          simp) p hp rfl
        have hy : yielded l.toArray (fillIf (fun j => decide (j < i)) a0 (dsts 0 (l.take m)) xs).tmps g = yielded l.toArray (fill a0 (dsts 0 (l.take m)) ys).tmps g := yielded_eval (fun d hd => by
          rw [eval_fillIf (.tmp d) _ _ (fun p hp hpe => by simpa using hwi _ (hl d hd p hp hpe))]
          exact eval_fill_congr (.tmp d) _ _ fun p hp hpe => hval p hp (hl d hd p hp hpe))
        rw [hy]
    have fin : ∀ v w', ((∀ d, o.dst = some d → v = xs i) ∧ I (fun j => D j || j == i) w') → ((∀ d, (l[i]?).bind (fun o => o.dst) = some d → v = xs i) ∧ (∀ j, D j = true → ∀ d, (l[j]?).bind (fun o => o.dst) = some d → ys j = xs j) ∧ I (fun j => D j || j == i) w') := fun v w' h =>
      ⟨fun d hd => h.1 d (by simpa [ho] using hd), fun j hj => hV j hj, h.2⟩
    unfold DoesG Does at *
    rw [hwant, hexec] at hstep
    split
    · rename_i hw
      rw [if_pos hw] at hstep
      generalize (execOp (fill a0 (dsts 0 (l.take m)) ys).eval o).run P w = r at *
      cases r with
      | ok n w' =>
        cases n <;> simp only [] at hstep ⊢
        case value v => exact fin _ _ hstep
        case skip => exact fin _ _ hstep
        case enter f args => exact Calls.mono hstep fun e w'' ⟨v, he, hv⟩ => ⟨v, he, fin _ _ hv⟩
        case row row args => exact Rows.mono hstep fun v w'' hv => fin _ _ hv
      | halt x w' => exact hstep
    · rename_i hw
      rw [if_neg hw] at hstep
      exact fin _ _ hstep
  · intro D ys w hD hV hI
    have hlen : (l.take m).length = m := by simp; omega
    rw [hlen, Nat.zero_add, hfr m (Nat.le_refl _)] at hK
    rw [fill_congr (xs' := xs)]
    · rw [fillIf_all _ _ (fun p hp => by simpa using (hmem' p hp).1)] at hK
      exact hK D w hD hI
    · intro p hp
      exact hV p.1 (hmem' p hp).1 p.2 (hmem' p hp).2
theorem rgn_seq {id n : Nat} {F : Fence} {w0 : World} (HF : FOk F P) (hnd : noDefer l = true) (m : Nat) (R : World → Prop) (hm : P.follows .mixedOrders = true) (hg : good m l = true)
    (hlt : (dsts 0 (l.take m)).all (fun p => decide (p.2 < a0.tmps.size)) = true) (h0 : R w0.drew)
    (hs : SeqI P l.toArray (fun _ => R) 0 (l.take m) a0 (fun A => ∀ (D : Nat → Bool) w, (∀ j, j < m → D j = true) → R w → wpListIn F n P l.toArray Q (l.drop m) A w)) : (Code.region id l.toArray true).wpIn F n P Q a0 w0 :=
  rgn_seqI HF hnd m (fun _ => R) hm hg hlt h0 hs
end
end Go.Burg

namespace Go.Proofs.YtnngicopphiaaaaGreatDoor.F
set_option maxRecDepth 8000
open Go.ChangeShapes Go.WideShapes Go.ChangeAt Go.RowKit Go.Burg
set_option maxHeartbeats 4000000 in
theorem fTurn_at {x i : Nat} {F : Fw} {y s g : Int} (w : World) (h : FwAt 212 w x F) (hr : 1 ≤ F.room) (h16 : F.n ≤ 16) (hi : IdxAt F F.n y i) (hlt : i < F.n) (hy : F.b i = y) :
    Calls Tryz.prog 172 #[.pointer (some ⟨x, 0, none⟩), .int .u8 y, .agg #[.int .i64 s, .int .u32 g]] w fun e w' => e = .returned (.int .i64 0) ∧ FwAt 212 w' x (F.turn i s g) ∧ Mod (· = x) w w' := by
  have hF := h.same (w' := w.alloc (.cells #[.int .i64 s, .int .u32 g] 30 (0, 0))) (Below.heap_alloc _ _ _ h.lt)
  have hN := heap_new w (.cells #[.int .i64 s, .int .u32 g] 30 (0, 0))
  have hx : w.heap.size ≠ x := by have := h.lt; omega
  have hB : Mod (· = x) w (w.alloc (.cells #[.int .i64 s, .int .u32 g] 30 (0, 0))) := (Mod.refl _ _).alloc _
  have hX := lt_of_block hN
  have HT := hid (there_at _ hF hr)
  have HA := hid (fat_at (w.alloc (.cells #[.int .i64 s, .int .u32 g] 30 (0, 0))) hF h16 hi true (by simp [hlt, hy]))
  have hi16 : i < 16 := by omega
  have hd2 : decide (16 ≤ i) = false := by simp; omega
  generalize hW : w.alloc (.cells #[.int .i64 s, .int .u32 g] 30 (0, 0)) = W at *
  generalize hu : w.heap.size = u at *
  have HW := hid hW
  have HU := hid hu
  have HF := hid hF
  have HNB := hid hN
  have HB := hid hB
  have HX := hid hx
  clear h hW hu hF hN hB hr h16 hi hlt hy hx
  go_enter Tryz.func172, Tryz.ntmps172
  go_wp2_with fail
  rw [HW.out, HU.out]
  go_wp2_with (first | (go_at_call 174; refine HT.out.mono ?_; rintro e w2 ⟨rfl, rfl⟩) | (go_at_call 175; refine HA.out.mono ?_; rintro e wa ⟨rfl, hb⟩))
  have HF1 := hid (HF.out.same (hb.block x HF.out.lt))
  have HN1 := hid ((hb.block u hX).trans HNB.out)
  have HB1 := hid (HB.out.trans (Mod.ofBelow hb) (fun _ _ h => h))
  clear hb HF HNB HB HT HA
  refine wp_region_seqI 8 (Turn 7 (fun w1 => FwAt 212 w1 x F ∧ Mod (· = x) wa w1) (fun w1 => FwAt 212 w1 x (F.turn i s g) ∧ Mod (· = x) wa w1)) (by kernel_rfl) (by kernel_rfl) (by kernel_rfl) (Turn.start ⟨HF1.out, (Mod.refl _ _).drew⟩) ?_
  dsimp only [List.take]
  iterate 7
    refine Seq.calm (a' := ?_) (by decide) ?_ ?_ ?_
    rotate_left
    ·
      intro w1 hw1
      have hM := hw1.elim (fun h => h.2) (fun h => h.2)
      have hu := (hM.block u (lt_of_block HN1.out) HX.out).trans HN1.out
      have u0 := cell_of hu 0
      have u1 := cell_of hu 1
      clear hM hu hw1
      go_wp2_with (fail)
      first | (refine ⟨?_, id, id⟩; exact rfl) | (refine ⟨?_, fail⟩; exact rfl)
    · kernel_rfl
  refine Seq.turn (a' := ?_) ?_ ?_ ?_
  rotate_left
  ·
    intro w1 hw1
    have HF2 := hid hw1.1
    have HM2 := hid hw1.2
    have hR := hw1.1.ref hi16
    have r0 := hR.1
    have r1 := hR.2
    have rf := hw1.1.free
    clear hw1 hR
    go_wp2_with fail
    refine ⟨?_, ?_, (HM2.out.setCell (p := ⟨x, 16 + i * 2, none⟩) (.inl rfl) _).setCell (p := ⟨x, 16 + i * 2 + 1, none⟩) (.inl rfl) _⟩
    exact rfl
    have := set_list (i := 16 + i * 2 + 1) (v := .int .u32 g) (set_list (i := 16 + i * 2) (v := .int .i64 s) HF2.out)
    rwa [turn_row F s g hi16] at this
  · kernel_rfl
  iterate 0
    refine Seq.calm (a' := ?_) (by decide) ?_ ?_ ?_
    rotate_left
    ·
      intro w1 hw1
      have hM := hw1.elim (fun h => h.2) (fun h => h.2)
      have hu := (hM.block u (lt_of_block HN1.out) HX.out).trans HN1.out
      have u0 := cell_of hu 0
      have u1 := cell_of hu 1
      clear hM hu hw1
      go_wp2_with (fail)
      first | (refine ⟨?_, id, id⟩; exact rfl) | (refine ⟨?_, fail⟩; exact rfl)
    · kernel_rfl
  refine SeqI.nil ?_
  intro D w1 hD hI
  replace hI := hI.done (hD 7 (by omega))
  clear hD
  dsimp only [List.drop]
  go_wp2
  go_ret
  exact ⟨rfl, hI.1, HB1.out.trans hI.2 (fun _ _ h => h)⟩
theorem FewL.facts {x r : Nat} {L : List Kd} {w : World} (h : FewL 212 w x L r) : ∃ F, FwAt 212 w x F ∧ F.list = L ∧ F.room = r ∧ 1 ≤ F.room ∧ F.room ≤ 16 ∧ F.n ≤ F.room := by
  obtain ⟨F, hF, rfl, rfl⟩ := h.f
  have hl := h.le
  rw [F.list_len] at hl
  exact ⟨F, hF, rfl, rfl, by rcases h.room with e | e <;> omega, by rcases h.room with e | e <;> omega, hl⟩
theorem fPut_L {x r : Nat} {L : List Kd} (k : Kd) (w : World) (h : FewL 212 w x L r) (hn : findK L k.b = none) (hl : L.length < r) :
    Calls Tryz.prog 170 #[.pointer (some ⟨x, 0, none⟩), .int .u8 k.b, .agg #[.int .i64 k.s, .int .u32 k.g]] w fun e w' => e = .returned (.int .i64 0) ∧ FewL 212 w' x (insK L k) r ∧ Mod (· = x) w w' := by
  obtain ⟨F, hF, rfl, hr, h1, h2, h3⟩ := FewL.facts h
  have hI := idxAt_list F k.b
  rw [F.list_len] at hl
  refine (fPut_at w hF (by omega) h2 hI ?_).mono ?_
  · rintro ⟨hx, hy⟩
    rw [findK_yes h.rise (F.list_get hx) hy] at hn
    cases hn
  · rintro e w' ⟨rfl, hF', hM⟩
    refine ⟨rfl, ⟨⟨_, hF', ?_, hr⟩, insK_rise h.rise hn, h.room, by rw [insK_len, F.list_len]; omega⟩, hM⟩
    rw [insK_eq]
    exact (Fw.list_ins F k.b k.s k.g hI.1).symm
theorem fTurn_L {x r : Nat} {L : List Kd} (y s g : Int) (k : Kd) (w : World) (h : FewL 212 w x L r) (hn : findK L y = some k) :
    Calls Tryz.prog 172 #[.pointer (some ⟨x, 0, none⟩), .int .u8 y, .agg #[.int .i64 s, .int .u32 g]] w fun e w' => e = .returned (.int .i64 0) ∧ FewL 212 w' x (turnK L y s g) r ∧ Mod (· = x) w w' := by
  obtain ⟨F, hF, rfl, hr, h1, h2, h3⟩ := FewL.facts h
  have hI := idxAt_list F y
  rcases findK_iff h.rise y with ⟨k', e1, e2, e3⟩ | ⟨_, e3⟩
  · have hi : idx F.list y < F.n := by have := (List.getElem?_eq_some_iff.1 e1).1; rwa [F.list_len] at this
    have hk := F.list_get hi
    rw [hk] at e1
    cases e1
    refine (fTurn_at w hF h1 (by omega) hI hi e2).mono ?_
    rintro e w' ⟨rfl, hF', hM⟩
    refine ⟨rfl, ⟨⟨_, hF', ?_, hr⟩, turnK_rise h.rise y s g, h.room, by have := h.le; simpa [turnK] using this⟩, hM⟩
    rw [turnK_eq h.rise hk e2, ← Fw.list_turn F s g]
    congr 2
  · rw [e3] at hn; cases hn
end Go.Proofs.YtnngicopphiaaaaGreatDoor.F
