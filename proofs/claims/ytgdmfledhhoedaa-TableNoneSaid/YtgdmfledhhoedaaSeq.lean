/- A region whose order is open, walked once, in the text's order: each operation from whatever world the others may have made. -/
import Derived.Test.YtgdmfledhhoedaaReg
namespace Go.Burg
open Go

section
variable {P : Program} {l : List Oper} {Q : Exit → Act → World → Prop} {a0 : Act}

/-- The operations in the text's order, the frame going on from one to the next, the world whatever I lets. -/
def SeqI (P : Program) (ops : Array Oper) (I : (Nat → Bool) → World → Prop) : Nat → List Oper → Act → (Act → Prop) → Prop
  | _, [], a, K => K a
  | k, o :: l, a, K => ∃ a', (∀ D w, D k = false → (∀ j ∈ waits o, D j = true) → I D w → wpList P ops (Alone fun a1 w' => a1 = a' ∧ I (fun j => D j || j == k) w') [o] a w) ∧
      a' = a.put o.dst (a'.tmps.getD (o.dst.getD 0) undef) ∧ SeqI P ops I (k + 1) l a' K

theorem SeqI.nil {ops : Array Oper} {I : (Nat → Bool) → World → Prop} {k : Nat} {a : Act} {K : Act → Prop} (h : K a) : SeqI P ops I k [] a K := h
theorem SeqI.cons {ops : Array Oper} {I : (Nat → Bool) → World → Prop} {k : Nat} {o : Oper} {l : List Oper} {a a' : Act} {K : Act → Prop}
    (h : ∀ D w, D k = false → (∀ j ∈ waits o, D j = true) → I D w → wpList P ops (Alone fun a1 w' => a1 = a' ∧ I (fun j => D j || j == k) w') [o] a w)
    (hp : a' = a.put o.dst (a'.tmps.getD (o.dst.getD 0) undef)) (k1 : SeqI P ops I (k + 1) l a' K) : SeqI P ops I k (o :: l) a K := ⟨a', h, hp, k1⟩
/-- Where one condition holds all the way. -/
theorem Seq.cons {ops : Array Oper} {R : World → Prop} {k : Nat} {o : Oper} {l : List Oper} {a a' : Act} {K : Act → Prop}
    (h : ∀ w, R w → wpList P ops (Alone fun a1 w' => a1 = a' ∧ R w') [o] a w)
    (hp : a' = a.put o.dst (a'.tmps.getD (o.dst.getD 0) undef)) (k1 : SeqI P ops (fun _ => R) (k + 1) l a' K) : SeqI P ops (fun _ => R) k (o :: l) a K := ⟨a', fun _ w _ _ hR => h w hR, hp, k1⟩

theorem SeqI_spec {ops : Array Oper} {I : (Nat → Bool) → World → Prop} {K : Act → Prop} : ∀ (l : List Oper) (k : Nat) (a : Act), SeqI P ops I k l a K →
    ∃ (xs : Nat → Value) (fr : Nat → Act), fr k = a ∧ (∀ i o, l[i]? = some o → fr (k + i + 1) = (fr (k + i)).put o.dst (xs (k + i)) ∧
      (∀ D w, D (k + i) = false → (∀ j ∈ waits o, D j = true) → I D w → wpList P ops (Alone fun a1 w' => a1 = fr (k + i + 1) ∧ I (fun j => D j || j == (k + i)) w') [o] (fr (k + i)) w)) ∧ K (fr (k + l.length)) := by
  intro l
  induction l with
  | nil => intro k a h; exact ⟨fun _ => undef, fun _ => a, rfl, by simp, h⟩
  | cons o l ih =>
    intro k a h
    obtain ⟨a', h1, h2, h3⟩ := h
    obtain ⟨xs, fr, hf, hall, hK⟩ := ih (k + 1) a' h3
    refine ⟨fun i => if i = k then a'.tmps.getD (o.dst.getD 0) undef else xs i, fun i => if i = k then a else fr i, by simp, ?_, ?_⟩
    · intro i o' ho
      cases i with
      | zero =>
        simp at ho
        subst ho
        have hne : k + 1 ≠ k := by omega
        simp only [Nat.add_zero, if_true, hne, if_false, hf]
        exact ⟨h2, h1⟩
      | succ i =>
        have := hall i o' (by simpa using ho)
        have e1 : k + (i + 1) = k + 1 + i := by omega
        have n1 : ¬ (k + 1 + i = k) := by omega
        have n2 : ¬ (k + 1 + i + 1 = k) := by omega
        rw [e1]
        simp only [n1, n2, if_false]
        exact this
    · have e1 : k + (o :: l).length = k + 1 + l.length := by simp; omega
      have n1 : ¬ (k + 1 + l.length = k) := by omega
      rw [e1]
      simp only [n1, if_false]
      exact hK

theorem alone_mono {ops : Array Oper} {o : Oper} {a : Act} {w : World} (K K' : Act → World → Prop) (hKK : ∀ a w, K a w → K' a w) (h : wpList P ops (Alone K) [o] a w) : wpList P ops (Alone K') [o] a w := by
  unfold wpList at *
  split
  · rename_i hw
    rw [if_pos hw] at h
    rcases h with h | ⟨_, _, _, hl⟩
    · refine .inl ?_
      unfold Oper.wp at *
      generalize (execOp a.eval o).run P w = r at *
      cases r with
      | ok n w' =>
        cases n <;> simp only [Oper.upon] at h ⊢
        case value v => exact hKK _ _ h
        case skip => exact hKK _ _ h
        case defer d => exact hKK _ _ h
        case enter f args =>
          refine Calls.mono h fun e w'' he => ?_
          cases e with
          | returned v => exact hKK _ _ he
          | panicked c => exact he.elim
          | outgrown => obtain ⟨_, _, he⟩ := he; exact he.elim
        case row row args => exact Rows.mono h fun v w'' hv => hKK _ _ hv
      | halt x w' => cases x <;> simp only [Oper.upon] at h <;> exact h.elim
    · exact hl.elim
  · rename_i hw
    rw [if_neg hw] at h
    exact hKK _ _ h

/-- **THE RULE, WALKED IN THE TEXT's ORDER.** -/
theorem wp_region_seqI {id : Nat} {w0 : World} (m : Nat) (I : (Nat → Bool) → World → Prop) (hm : P.follows .mixedOrders = true) (hg : good m l = true)
    (hlt : (dsts 0 (l.take m)).all (fun p => decide (p.2 < a0.tmps.size)) = true) (h0 : I (fun _ => false) w0.drew)
    (hs : SeqI P l.toArray I 0 (l.take m) a0 (fun F => ∀ D w, (∀ j, j < m → D j = true) → I D w → wpList P l.toArray Q (l.drop m) F w)) : (Code.region id l.toArray true).wp P Q a0 w0 := by
  have hg' := hg
  simp only [good, Bool.and_eq_true, decide_eq_true_eq] at hg'
  obtain ⟨⟨⟨hg1, hg2⟩, hml⟩, _⟩ := hg'
  have htk : ∀ i, i < m → (l.take m)[i]? = l[i]? := fun i hi => by simp [hi]
  obtain ⟨xs, fr, hf0, hall, hK⟩ := SeqI_spec (l.take m) 0 a0 hs
  have hdis := distinct_spec hg1
  have hmem' : ∀ p ∈ dsts 0 (l.take m), p.1 < m ∧ (l[p.1]?).bind (fun o => o.dst) = some p.2 := fun p hp => by
    obtain ⟨i', o', hi', hj', hd'⟩ := (mem_dsts (l.take m) 0 p.1 p.2).1 hp
    have h1 := (List.getElem?_eq_some_iff.1 hi').1
    simp only [List.length_take] at h1
    have h2 : p.1 = i' := by omega
    rw [htk i' (by omega)] at hi'
    exact ⟨by omega, by rw [h2, hi']; exact hd'⟩
  have hfr : ∀ i, i ≤ m → fr i = fillIf (fun j => decide (j < i)) a0 (dsts 0 (l.take m)) xs := by
    intro i
    induction i with
    | zero =>
      intro _
      rw [hf0]
      have : ∀ (ds : List (Nat × Tmp)) (a : Act), fillIf (fun j => decide (j < 0)) a ds xs = a := by
        intro ds
        induction ds with
        | nil => intro a; rfl
        | cons p ds ih => intro a; obtain ⟨j, d⟩ := p; simp only [fillIf]; exact ih a
      exact (this _ _).symm
    | succ i ih =>
      intro hi
      have hil : i < l.length := by omega
      have ho : (l.take m)[i]? = some l[i] := by rw [htk i (by omega)]; simp [hil]
      have h1 := (hall i l[i] ho).1
      simp only [Nat.zero_add] at h1
      rw [h1, ih (by omega)]
      cases hd : l[i].dst with
      | none =>
        simp only [Act.put]
        refine fillIf_congr _ _ fun p hp => ?_
        have hne : p.1 ≠ i := fun he => by
          have := (hmem' p hp).2
          rw [he] at this
          simp [hil, hd] at this
        constructor
        · simp only [decide_eq_decide]; omega
        · intro _; rfl
      | some d =>
        have := fillIf_set (D := fun j => decide (j < i)) (xs := xs) i (xs i) (dsts 0 (l.take m)) a0 d hdis ((mem_dsts (l.take m) 0 i d).2 ⟨i, l[i], ho, by omega, hd⟩) (by simp)
        rw [← this]
        refine fillIf_congr _ _ fun p _ => ⟨?_, fun _ => ?_⟩
        · by_cases h : p.1 = i
          · simp [h]
          · have hb : (p.1 == i) = false := by simpa using h
            simp only [hb, Bool.or_false, decide_eq_decide]; omega
        · split
          · rename_i h; rw [h]
          · rfl
  have hsz : ∀ (D : Nat → Bool) (ds : List (Nat × Tmp)) (a : Act), (fillIf D a ds xs).tmps.size = a.tmps.size := by
    intro D ds
    induction ds with
    | nil => intro a; rfl
    | cons p ds ih => intro a; obtain ⟨j, d⟩ := p; simp only [fillIf]; rw [ih]; split <;> simp [Act.put]
  refine wp_region_inv m hm hg (fun j v _ => ∀ d, (l[j]?).bind (fun o => o.dst) = some d → v = xs j) I h0 ?_ ?_
  · intro i o him ho D ys w hD hwait hV hI
    have ho' : (l.take m)[i]? = some o := by rw [htk i him]; exact ho
    have hok : looksOk l.toArray (dsts 0 (l.take m)) i o = true := by simpa using goodOps_spec (l.take m) 0 hg2 i o ho'
    obtain ⟨hput, hrun⟩ := hall i o ho'
    have h1 := hrun D w (by simpa using hD) hwait hI
    simp only [Nat.zero_add] at h1 hput
    have hstep : DoesG P l.toArray o (fr i) w (fun v w' => (∀ d, o.dst = some d → v = xs i) ∧ I (fun j => D j || j == i) w') := by
      refine Does_of_alone (alone_mono _ _ ?_ h1)
      rintro a w' ⟨rfl, hR⟩
      have hdef : ∀ (b : Act) (d : Option Tmp) (v : Value), (b.put d v).defers = b.defers := fun b d v => by cases d <;> rfl
      refine ⟨by rw [hput, hdef], fun v hv => ⟨fun d hd => ?_, hR⟩⟩
      rw [hput] at hv
      simp only [hd] at hv
      have hmem : (i, d) ∈ dsts 0 (l.take m) := (mem_dsts (l.take m) 0 i d).2 ⟨i, o, ho', by omega, hd⟩
      have hlt' : d < (fr i).tmps.size := by
        rw [hfr i (by omega), hsz]
        have := List.all_eq_true.1 hlt (i, d) hmem
        simpa using this
      have h3 := congrArg (fun b : Act => b.tmps.getD d undef) hv
      simpa [Act.put, hlt'] using h3.symm
    rw [hfr i (by omega)] at hstep
    -- from the frame of the text's order to the frame at hand
    have hok' := hok
    simp only [looksOk, Bool.and_eq_true, List.all_eq_true] at hok'
    have hlooks : ∀ t ∈ o.looksAt l.toArray, ∀ p ∈ dsts 0 (l.take m), t = p.2 → p.1 ∈ waits o := fun t ht p hp hte => by
      have h1 := hok'.1.1 t ht p hp
      subst hte
      simpa using h1
    have hwi : ∀ j ∈ waits o, j < i := fun j hj => by
      have := hok'.1.2 j hj
      simpa using this
    have hval : ∀ p ∈ dsts 0 (l.take m), p.1 ∈ waits o → xs p.1 = ys p.1 := fun p hp hw => (hV p.1 (hwait _ hw) p.2 (hmem' p hp).2).symm
    have hev : ∀ x ∈ o.op.operands, (fillIf (fun j => decide (j < i)) a0 (dsts 0 (l.take m)) xs).eval x = (fill a0 (dsts 0 (l.take m)) ys).eval x := fun x hx => by
      have hl : ∀ p ∈ dsts 0 (l.take m), x = .tmp p.2 → p.1 ∈ waits o := fun p hp hxe => hlooks p.2 (by
        subst hxe
        exact List.mem_append_left _ (List.mem_filterMap.2 ⟨.tmp p.2, by simpa using hx, rfl⟩)) p hp rfl
      rw [eval_fillIf x _ _ (fun p hp hxe => by simpa using hwi _ (hl p hp hxe))]
      exact eval_fill_congr x _ _ fun p hp hxe => hval p hp (hl p hp hxe)
    have hsel : ∀ cs b, o.op ≠ .select cs b := fun cs b he => by
      have := hok'.2
      rw [he] at this
      cases this
    have hexec := execOp_congr o hsel hev
    have hwant : Region.wanted o (yielded l.toArray (fillIf (fun j => decide (j < i)) a0 (dsts 0 (l.take m)) xs).tmps) = Region.wanted o (yielded l.toArray (fill a0 (dsts 0 (l.take m)) ys).tmps) := by
      unfold Region.wanted
      cases hgd : o.guard with
      | none => rfl
      | some gw =>
        obtain ⟨g, want⟩ := gw
        simp only []
        have hl : ∀ d, (l.toArray[g]?).bind (fun o => o.dst) = some d → ∀ p ∈ dsts 0 (l.take m), (.tmp d : Operand) = .tmp p.2 → p.1 ∈ waits o := fun d hd p hp hpe => hlooks p.2 (by
          refine List.mem_append_right _ ?_
          simp only [hgd]
          have hpd : d = p.2 := by cases hpe; rfl
          rw [hd, hpd]
          simp) p hp rfl
        have hy : yielded l.toArray (fillIf (fun j => decide (j < i)) a0 (dsts 0 (l.take m)) xs).tmps g = yielded l.toArray (fill a0 (dsts 0 (l.take m)) ys).tmps g := yielded_eval (fun d hd => by
          rw [eval_fillIf (.tmp d) _ _ (fun p hp hpe => by simpa using hwi _ (hl d hd p hp hpe))]
          exact eval_fill_congr (.tmp d) _ _ fun p hp hpe => hval p hp (hl d hd p hp hpe))
        rw [hy]
    have fin : ∀ v w', ((∀ d, o.dst = some d → v = xs i) ∧ I (fun j => D j || j == i) w') → ((∀ d, (l[i]?).bind (fun o => o.dst) = some d → v = xs i) ∧ (∀ j, D j = true → ∀ d, (l[j]?).bind (fun o => o.dst) = some d → ys j = xs j) ∧ I (fun j => D j || j == i) w') := fun v w' h =>
      ⟨fun d hd => h.1 d (by simpa [ho] using hd), fun j hj => hV j hj, h.2⟩
    unfold DoesG Does at *
    rw [hwant, hexec] at hstep
    split
    · rename_i hw
      rw [if_pos hw] at hstep
      generalize (execOp (fill a0 (dsts 0 (l.take m)) ys).eval o).run P w = r at *
      cases r with
      | ok n w' =>
        cases n <;> simp only [] at hstep ⊢
        case value v => exact fin _ _ hstep
        case skip => exact fin _ _ hstep
        case enter f args => exact Calls.mono hstep fun e w'' ⟨v, he, hv⟩ => ⟨v, he, fin _ _ hv⟩
        case row row args => exact Rows.mono hstep fun v w'' hv => fin _ _ hv
      | halt x w' => exact hstep
    · rename_i hw
      rw [if_neg hw] at hstep
      exact fin _ _ hstep
  · intro D ys w hD hV hI
    have hlen : (l.take m).length = m := by simp; omega
    rw [hlen, Nat.zero_add, hfr m (Nat.le_refl _)] at hK
    rw [fill_congr (xs' := xs)]
    · rw [fillIf_all _ _ (fun p hp => by simpa using (hmem' p hp).1)] at hK
      exact hK D w hD hI
    · intro p hp
      exact hV p.1 (hmem' p hp).1 p.2 (hmem' p hp).2

theorem wp_region_seq {id : Nat} {w0 : World} (m : Nat) (R : World → Prop) (hm : P.follows .mixedOrders = true) (hg : good m l = true)
    (hlt : (dsts 0 (l.take m)).all (fun p => decide (p.2 < a0.tmps.size)) = true) (h0 : R w0.drew)
    (hs : SeqI P l.toArray (fun _ => R) 0 (l.take m) a0 (fun F => ∀ (D : Nat → Bool) w, (∀ j, j < m → D j = true) → R w → wpList P l.toArray Q (l.drop m) F w)) : (Code.region id l.toArray true).wp P Q a0 w0 :=
  wp_region_seqI m (fun _ => R) hm hg hlt h0 hs
end
end Go.Burg
