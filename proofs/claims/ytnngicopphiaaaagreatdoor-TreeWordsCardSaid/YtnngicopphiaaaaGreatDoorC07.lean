/- Part 7 of 51 of a proof: lemmas on the functions that it reaches. -/
import Derived.Test.YtnngicopphiaaaaGreatDoorC02
import Derived.Test.YtnngicopphiaaaaGreatDoorC06
namespace Go.Burg
open Go
section
variable {P : Program} {l : List Oper} {Q : Exit → Act → World → Prop} {a0 : Act}
theorem wp_region_joint {id : Nat} {w0 : World} (m : Nat) (hm : P.follows .mixedOrders = true) (hg : good m l = true)
    (J : (Nat → Bool) → (Nat → Value) → World → Prop) (h0 : J (fun _ => false) (fun _ => undef) w0.drew)
    (hs : ∀ i o, i < m → l[i]? = some o → ∀ (D : Nat → Bool) (xs : Nat → Value) (w : World), D i = false → (∀ j ∈ waits o, D j = true) → J D xs w →
      DoesG P l.toArray o (fill a0 (dsts 0 (l.take m)) xs) w fun v w' => J (fun j => D j || j == i) (fun j => if j = i then v else xs j) w')
    (hend : ∀ (D : Nat → Bool) (xs : Nat → Value) (w : World), (∀ j, j < m → D j = true) → J D xs w → wpList P l.toArray Q (l.drop m) (fill a0 (dsts 0 (l.take m)) xs) w) :
    (Code.region id l.toArray true).wp P Q a0 w0 := by
  simp only [good, Bool.and_eq_true, decide_eq_true_eq, List.all_eq_true, List.mem_range] at hg
  obtain ⟨⟨⟨hg1, hg2⟩, hml⟩, hg4⟩ := hg
  have hdis := distinct_spec hg1
  have htk : ∀ i, i < m → (l.take m)[i]? = l[i]? := fun i hi => by simp [hi]
  have hok : ∀ i o, i < m → l[i]? = some o → looksOk l.toArray (dsts 0 (l.take m)) i o = true := fun i o hi h => by simpa using goodOps_spec (l.take m) 0 hg2 i o (by rw [htk i hi]; exact h)
  have hwlt : ∀ i o, l[i]? = some o → ∀ j ∈ waits o, j < i := fun i o ho j hj => by
    have hlt := (List.getElem?_eq_some_iff.1 ho).1
    have := (hg4 i hlt).1
    rw [ho] at this
    simpa using this j (by simpa using hj)
  have htail : ∀ i, i < l.length → m ≤ i → tailOk l i = true := fun i hi hmi => by
    have := (hg4 i hi).2
    rcases Bool.or_eq_true_iff.1 this with h | h
    · simp at h; omega
    · exact h
  refine wp_region_any hm ?_
  -- the row behind number m
  have row : ∀ (fuel : Nat) (listed : Array Bool) (a : Act) (w : World) (k : Nat), listed.size = l.length → k + fuel = l.length → m ≤ k → (∀ j, j < k → listed.getD j false = true) → (∀ j, k ≤ j → listed.getD j false = false) →
      wpList P l.toArray Q (l.drop k) a w → wpAny P .any l.toArray Q fuel listed a w := by
    intro fuel
    induction fuel with
    | zero =>
      intro listed a w k hsz hk hmk hlo hhi h
      have hnil : Region.ready .any l.toArray listed = [] := by
        cases hr : Region.ready .any l.toArray listed with
        | nil => rfl
        | cons i r =>
          have hi : i ∈ Region.ready .any l.toArray listed := by rw [hr]; simp
          obtain ⟨h1, o, ho, _⟩ := mem_ready.1 hi
          have hlt : i < l.length := by
            have := (Array.getElem?_eq_some_iff.1 ho).1
            simpa using this
          have h2 := hlo i (by omega)
          have hlt' : i < listed.size := hsz ▸ hlt
          simp [hlt'] at h1 h2
          rw [h1] at h2; cases h2
      refine ⟨hnil, ?_⟩
      rw [List.drop_eq_nil_of_le (by omega)] at h
      exact h
    | succ fuel ih =>
      intro listed a w k hsz hk hmk hlo hhi h
      have hkl : k < l.length := by omega
      have honly : ∀ i ∈ Region.ready .any l.toArray listed, i = k := fun i hi => by
        obtain ⟨h1, o, ho, hall⟩ := mem_ready.1 hi
        have hlt : i < l.length := by
          have := (Array.getElem?_eq_some_iff.1 ho).1
          simpa using this
        have hlt' : i < listed.size := hsz ▸ hlt
        have hun : listed.getD i false = false := by simpa [hlt'] using h1
        have hik : k ≤ i := by
          rcases Nat.lt_or_ge i k with hh | hh
          · rw [hlo i hh] at hun; cases hun
          · exact hh
        have hD := tailOk_spec (htail i hlt (by omega)) (fun j => listed.getD j false) (fun k' o' hk' hor j hj => by
          rcases hor with hor | rfl
          · have hkk : k' < k := by
              rcases Nat.lt_or_ge k' k with hh | hh
              · exact hh
              · have h7 := hhi k' hh
                have h8 : listed.getD k' false = true := hor
                rw [h7] at h8; cases h8
            have := hwlt k' o' hk' j hj
            exact hlo j (by omega)
          · have ho2 : l[k']? = some o := by simpa using ho
            rw [ho2] at hk'
            cases hk'
            obtain ⟨e, he, hb, rfl⟩ := waits_mem.1 hj
            exact hall e he hb)
        rcases Nat.lt_or_ge k i with hh | hh
        · have h5 := hD k hh
          have h6 := hhi k (Nat.le_refl _)
          have h8 : listed.getD k false = true := h5
          rw [h6] at h8; cases h8
        · omega
      have hkf : listed.getD k true = false := by
        have h6 := hhi k (Nat.le_refl _)
        have hlt' : k < listed.size := hsz ▸ hkl
        simpa [hlt'] using h6
      have hkr : k ∈ Region.ready .any l.toArray listed := mem_ready.2 ⟨hkf, l[k], by simp [hkl], fun e he hb =>
        hlo e.on (hwlt k l[k] (by simp [hkl]) e.on (waits_mem.2 ⟨e, he, hb, rfl⟩))⟩
      refine ⟨fun hr => (by rw [hr] at hkr; cases hkr), fun i hi => ?_⟩
      obtain rfl := honly i hi
      rw [List.drop_eq_getElem_cons hkl] at h
      have hih : ∀ a w, wpList P l.toArray Q (l.drop (i + 1)) a w → wpAny P .any l.toArray Q fuel (listed.setIfInBounds i true) a w := fun a w h' =>
        ih _ a w (i + 1) (by simpa using hsz) (by omega) (by omega) (fun j hj => by
          have hlt' : i < listed.size := hsz ▸ hkl
          by_cases hji : j = i
          · subst hji; simp [hlt']
          · have hij : i ≠ j := fun h => hji h.symm
            simpa [Array.getElem?_setIfInBounds_ne hij] using hlo j (by omega)) (fun j hj => by
          have hij : i ≠ j := by omega
          simpa [Array.getElem?_setIfInBounds_ne hij] using hhi j (by omega)) h'
      unfold wpOp
      have ho : l.toArray[i]? = some l[i] := by simp [hkl]
      simp only [ho]
      unfold wpList at h
      split
      · rename_i hw
        rw [if_pos hw] at h
        exact h.imp (Oper.wp_mono hih) (fun x => x)
      · rename_i hw
        rw [if_neg hw] at h
        exact hih _ _ h
  have main : ∀ (fuel : Nat) (listed : Array Bool) (xs : Nat → Value) (w : World), listed.size = l.length → left listed = fuel →
      (∀ j, m ≤ j → listed.getD j false = false) → (∀ k o, l[k]? = some o → listed.getD k false = true → ∀ j ∈ waits o, listed.getD j false = true) →
      J (fun j => listed.getD j false) xs w →
      wpAny P .any l.toArray Q fuel listed (fillIf (fun j => listed.getD j false) a0 (dsts 0 (l.take m)) xs) w := by
    intro fuel
    induction fuel with
    | zero =>
      intro listed xs w hsz hl hhi hcl hJ
      have hall : ∀ j, j < l.length → listed.getD j false = true := fun j hj => left_zero hl j (hsz ▸ hj)
      have hmeq : m = l.length := by
        rcases Nat.lt_or_ge m l.length with h | h
        · have h1 := hall m h
          rw [hhi m (Nat.le_refl _)] at h1; cases h1
        · omega
      refine row 0 listed _ w l.length hsz (by omega) (by omega) hall (fun j hj => hhi j (by omega)) ?_
      rw [fillIf_all _ _ (fun p hp => by
        obtain ⟨i, o, hi, hj, _⟩ := (mem_dsts (l.take m) 0 p.1 p.2).1 hp
        have := (List.getElem?_eq_some_iff.1 hi).1
        simp only [List.length_take] at this
        exact hall p.1 (by omega))]
      have := hend _ xs w (fun j hj => hall j (by omega)) hJ
      rw [hmeq] at this ⊢
      exact this
    | succ fuel ih =>
      intro listed xs w hsz hl hhi hcl hJ
      by_cases hfront : ∀ j, j < m → listed.getD j false = true
      · -- all of the first m are done: the row begins
        have hcount : left listed = l.length - m := by
          obtain ⟨lst⟩ := listed
          simp only [left]
          have hsz' : lst.length = l.length := by simpa using hsz
          have e1 : lst = List.replicate m true ++ List.replicate (l.length - m) false := by
            apply List.ext_getElem
            · simp; omega
            · intro i h1 h2
              by_cases him : i < m
              · have := hfront i him
                simp [h1] at this
                simp [him, this]
              · have := hhi i (by omega)
                simp [h1] at this
                rw [List.getElem_append_right (by simpa using him)]
                simp [this]
          rw [e1]
          simp [List.countP_replicate]
        refine row (fuel + 1) listed _ w m hsz (by omega) (Nat.le_refl _) hfront hhi ?_
        rw [fillIf_all _ _ (fun p hp => by
          obtain ⟨i, o, hi, hj, _⟩ := (mem_dsts (l.take m) 0 p.1 p.2).1 hp
          have := (List.getElem?_eq_some_iff.1 hi).1
          simp only [List.length_take] at this
          exact hfront p.1 (by omega))]
        exact hend _ xs w hfront hJ
      refine ⟨fun hr => ?_, fun i hi => ?_⟩
      · exfalso
        obtain ⟨i, hi, hmin⟩ := least_unlisted (listed := listed) (by omega)
        have hlt : i < listed.size := by
          rcases Nat.lt_or_ge i listed.size with h' | h'
          · exact h'
          · simp [Array.getElem?_eq_none h'] at hi
        have hlt2 : i < l.length := hsz ▸ hlt
        have : i ∈ Region.ready .any l.toArray listed := mem_ready.2 ⟨hi, l[i], by simp [hlt2], fun e he hb => by
          have h3 := hwlt i l[i] (by simp [hlt2]) e.on (waits_mem.2 ⟨e, he, hb, rfl⟩)
          have h4 := hmin e.on h3
          have h5 : e.on < listed.size := by omega
          simpa [h5] using h4⟩
        rw [hr] at this
        cases this
      · obtain ⟨hun, o, ho, hall⟩ := mem_ready.1 hi
        have ho' : l[i]? = some o := by simpa using ho
        have hi2 : i < listed.size := by
          rcases Nat.lt_or_ge i listed.size with h' | h'
          · exact h'
          · simp [Array.getElem?_eq_none h'] at hun
        have hDi : listed.getD i false = false := by simpa [hi2] using hun
        have hwait : ∀ j ∈ waits o, listed.getD j false = true := fun j hj => by
          obtain ⟨e, he, hb, rfl⟩ := waits_mem.1 hj
          exact hall e he hb
        have him : i < m := by
          rcases Nat.lt_or_ge i m with h | h
          · exact h
          · exfalso
            have hD := tailOk_spec (htail i (hsz ▸ hi2) h) (fun j => listed.getD j false) (fun k' o' hk' hor j hj => by
              rcases hor with hor | rfl
              · exact hcl k' o' hk' hor j hj
              · rw [ho'] at hk'
                cases hk'
                exact hwait j hj)
            exact hfront fun j hj => hD j (by omega)
        have hlk := hok i o him ho'
        simp only [looksOk, Bool.and_eq_true, List.all_eq_true] at hlk
        have hlooks : ∀ t ∈ o.looksAt l.toArray, ∀ p ∈ dsts 0 (l.take m), t = p.2 → listed.getD p.1 false = true := fun t ht p hp hte => by
          have h1 := hlk.1.1 t ht p hp
          subst hte
          have h2 : p.1 ∈ waits o := by simpa using h1
          exact hwait _ h2
        have hev : ∀ x ∈ o.op.operands, (fillIf (fun j => listed.getD j false) a0 (dsts 0 (l.take m)) xs).eval x = (fill a0 (dsts 0 (l.take m)) xs).eval x := fun x hx =>
          eval_fillIf x _ _ fun p hp hxe => hlooks p.2 (by
            subst hxe
            exact List.mem_append_left _ (List.mem_filterMap.2 ⟨.tmp p.2, by simpa using hx, rfl⟩)) p hp rfl
        have hsel : ∀ cs b, o.op ≠ .select cs b := fun cs b he => by
          have := hlk.2
          rw [he] at this
          cases this
        have hexec := execOp_congr o hsel hev
        have hwant : Region.wanted o (yielded l.toArray (fillIf (fun j => listed.getD j false) a0 (dsts 0 (l.take m)) xs).tmps) = Region.wanted o (yielded l.toArray (fill a0 (dsts 0 (l.take m)) xs).tmps) := by
          unfold Region.wanted
          cases hgd : o.guard with
          | none => rfl
          | some gw =>
            obtain ⟨g, want⟩ := gw
            simp only []
            rw [yielded_eval (fun d hd => eval_fillIf (.tmp d) _ _ fun p hp hpe => hlooks p.2 (by
              refine List.mem_append_right _ ?_
              simp only [hgd]
              have hpd : d = p.2 := by cases hpe; rfl
              rw [hd, hpd]
              simp) p hp rfl)]
        have hstep := hs i o him ho' (fun j => listed.getD j false) xs w hDi hwait hJ
        have hput : ∀ v w', J (fun j => listed.getD j false || j == i) (fun j => if j = i then v else xs j) w' →
            wpAny P .any l.toArray Q fuel (listed.setIfInBounds i true) ((fillIf (fun j => listed.getD j false) a0 (dsts 0 (l.take m)) xs).put o.dst v) w' := by
          intro v w' hJ'
          have hD' : (fun j => (listed.setIfInBounds i true).getD j false) = (fun j => listed.getD j false || j == i) := by
            funext j
            by_cases hji : j = i
            · subst hji; simp [hi2]
            · have hij : i ≠ j := fun h => hji h.symm
              simp [Array.getElem?_setIfInBounds_ne hij, hji]
          have hfr : (fillIf (fun j => listed.getD j false) a0 (dsts 0 (l.take m)) xs).put o.dst v = fillIf (fun j => (listed.setIfInBounds i true).getD j false) a0 (dsts 0 (l.take m)) (fun j => if j = i then v else xs j) := by
            rw [hD']
            cases hdst : o.dst with
            | none =>
              simp only [Act.put]
              refine fillIf_congr _ _ fun p hp => ?_
              obtain ⟨i', o', hi', hj', hd'⟩ := (mem_dsts (l.take m) 0 p.1 p.2).1 hp
              have hne : p.1 ≠ i := fun he => by
                have : i' = i := by omega
                subst this
                rw [htk i' him, ho'] at hi'
                cases hi'
                rw [hdst] at hd'
                cases hd'
              simp [hne]
            | some d =>
              exact (fillIf_set i v _ a0 d hdis ((mem_dsts (l.take m) 0 i d).2 ⟨i, o, by rw [htk i him]; exact ho', by omega, hdst⟩) hDi).symm
          rw [hfr]
          have hmono : ∀ j, listed.getD j false = true → (listed.setIfInBounds i true).getD j false = true := fun j hj => getD_set_true hj
          refine ih _ _ _ (by simpa using hsz) (by have := left_set hun; omega) (fun j hj => ?_) (fun k o' hk hlk' j hj => ?_) ?_
          · have hij : i ≠ j := by omega
            simpa [Array.getElem?_setIfInBounds_ne hij] using hhi j hj
          · by_cases hki : k = i
            · subst hki
              rw [ho'] at hk; cases hk
              exact hmono j (hwait j hj)
            · have hik : i ≠ k := fun h => hki h.symm
              exact hmono j (hcl k o' hk (by simpa [Array.getElem?_setIfInBounds_ne hik] using hlk') j hj)
          · rw [hD']; exact hJ'
        unfold wpOp
        simp only [ho]
        unfold DoesG at hstep
        rw [hwant]
        split
        · rename_i hw
          rw [if_pos hw] at hstep
          refine .inl (Does.upon ?_ hput)
          unfold Does at hstep ⊢
          rw [hexec]
          exact hstep
        · rename_i hw
          rw [if_neg hw] at hstep
          exact hput _ _ hstep
  have hrep : ∀ j, (Array.replicate l.length false).getD j false = false := fun j => by
    by_cases h : j < l.length <;> simp [h]
  have hstart := main l.length (Array.replicate l.length false) (fun _ => undef) w0.drew (by simp) (by simp [left, List.countP_replicate]) (fun j _ => hrep j) (fun k o _ h => by rw [hrep] at h; cases h)
    (by
      have : (fun j => (Array.replicate l.length false).getD j false) = fun _ => false := funext hrep
      rw [this]; exact h0)
  have hfr0 : fillIf (fun j => (Array.replicate l.length false).getD j false) a0 (dsts 0 (l.take m)) (fun _ => undef) = a0 := by
    have : ∀ (ds : List (Nat × Tmp)) (a : Act), fillIf (fun j => (Array.replicate l.length false).getD j false) a ds (fun _ => undef) = a := by
      intro ds
      induction ds with
      | nil => intro a; rfl
      | cons p ds ih =>
        intro a
        obtain ⟨j, d⟩ := p
        simp only [fillIf]
        rw [hrep j]
        exact ih a
    exact this _ _
  rw [hfr0] at hstart
  simpa using hstart
theorem put_inj {a : Act} {d : Nat} {v v' : Value} (h : d < a.tmps.size) (e : a.put (some d) v = a.put (some d) v') : v = v' := by
  have h3 := congrArg (fun b : Act => b.tmps.getD d undef) e
  simpa [Act.put, h] using h3
theorem wp_region_val {id : Nat} {w0 : World} (m : Nat) (J : (Nat → Bool) → (Nat → Value) → World → Prop) (hm : P.follows .mixedOrders = true) (hg : good m l = true)
    (hlt : (dsts 0 (l.take m)).all (fun p => decide (p.2 < a0.tmps.size)) = true) (h0 : J (fun _ => false) (fun _ => undef) w0.drew)
    (hs : AllOpsI (fun i o => ∀ D xs w, D i = false → (∀ j ∈ waits o, D j = true) → J D xs w →
      wpList P l.toArray (Alone fun a1 w' => ∃ v, a1 = (fill a0 (dsts 0 (l.take m)) xs).put o.dst v ∧ ∀ u, (o.dst.isSome = true → u = v) → J (fun j => D j || j == i) (fun j => if j = i then u else xs j) w') [o] (fill a0 (dsts 0 (l.take m)) xs) w) 0 (l.take m))
    (hend : ∀ (D : Nat → Bool) (xs : Nat → Value) (w : World), (∀ j, j < m → D j = true) → J D xs w → wpList P l.toArray Q (l.drop m) (fill a0 (dsts 0 (l.take m)) xs) w) :
    (Code.region id l.toArray true).wp P Q a0 w0 := by
  refine wp_region_joint m hm hg J h0 ?_ hend
  intro i o him ho D xs w hD hw hJ
  have ho' : (l.take m)[i]? = some o := by rw [List.getElem?_take]; simp [him, ho]
  have h1 := AllOpsI_spec (l.take m) 0 hs i o ho' D xs w (by simpa using hD) hw hJ
  simp only [Nat.zero_add] at h1
  refine Does_of_alone (alone_mono _ _ ?_ h1)
  rintro a1 w' ⟨v, rfl, g⟩
  have hdef : ∀ (b : Act) (d : Option Tmp) (v : Value), (b.put d v).defers = b.defers := fun b d v => by cases d <;> rfl
  refine ⟨hdef _ _ _, fun v' he => g v' fun hds => ?_⟩
  obtain ⟨d, hdd⟩ := Option.isSome_iff_exists.1 hds
  have hmem : (i, d) ∈ dsts 0 (l.take m) := (mem_dsts (l.take m) 0 i d).2 ⟨i, o, ho', by omega, hdd⟩
  have hl := List.all_eq_true.1 hlt (i, d) hmem
  rw [hdd] at he
  exact (put_inj (by rw [fill_size]; simpa using hl) he).symm
end
end Go.Burg

namespace Go.Proofs.YtnngicopphiaaaaGreatDoor.M
set_option maxRecDepth 8000
open Go.ChangeShapes Go.WideShapes Go.ChangeAt Go.RowKit Go.Burg
section
variable {w : World} {x gr gu r : Nat} {M : Mw} {L : List Kd}
set_option maxHeartbeats 4000000 in
theorem take_at (b p : Nat) (hb : b < 256) (h : ManyAt 219 30 4 w x gr gu r M) (h0 : M.at' b = p + 1) :
    Calls Tryz.prog 186 #[.pointer (some ⟨x, 0, none⟩), .int .u8 b] w fun e w' => e = .returned (.tuple #[.agg #[.int .i64 (M.s p), .int .u32 (M.g p)], .int .i64 0]) ∧ ManyAt 219 30 4 w' x gr gu r (M.lift p b) ∧ Mod (MOwn x gr gu) w w' := by
  have hA := h.alloc (.cells #[.int .i64 0, .int .u32 0] 30 (0, 0))
  have hN := heap_new w (.cells #[.int .i64 0, .int .u32 0] 30 (0, 0))
  have hx : ¬ MOwn x gr gu w.heap.size := by have := h.lt; rintro (e | e | e) <;> omega
  have hB : Mod (MOwn x gr gu) w (w.alloc (.cells #[.int .i64 0, .int .u32 0] 30 (0, 0))) := (Mod.refl _ _).alloc _
  have HT := hid (there_at hA)
  have HH := hid (has_at b hb hA)
  have HR := hid (lift_at b p hb hA h0)
  rw [h0] at HH
  have hd : decide (0 < p + 1) = true := by simp
  rw [hd] at HH
  generalize hW : w.alloc (.cells #[.int .i64 0, .int .u32 0] 30 (0, 0)) = W at *
  generalize hu : w.heap.size = c at *
  have HW := hid hW
  have HU := hid hu
  have HN2 := hid hN
  have HB := hid hB
  have HX := hid hx
  clear h hW hu hA hN hB h0 hd hx
  go_enter Tryz.func186, Tryz.ntmps186
  go_wp2_with fail
  rw [HW.out, HU.out]
  go_wp2_with (first | (go_at_call 193; refine HT.out.mono ?_; rintro e w2 ⟨rfl, rfl⟩) | (go_at_call 191; refine HH.out.mono ?_; rintro e w2 ⟨rfl, rfl⟩) | (go_at_call 195; refine HR.out.mono ?_; rintro e w2 ⟨rfl, hA2, hM2⟩; have hk := (hM2.block c (lt_of_block HN2.out) HX.out).trans HN2.out; have n0 := cell_of hk 0; have n1 := cell_of hk 1; have nf := free_of hk; have HA2 := hid hA2; have HM2 := hid hM2; clear hk hA2 hM2))
  refine bodyPost_ret (v := .tuple #[.agg #[_, _], _]) (by simp [results, Tryz.results186, go_sem, n0, n1]) rfl ⟨rfl, ?_⟩
  have hMs := Mod.setCell (S := (· = c)) (p := ⟨c, 1, none⟩) (Mod.setCell (S := (· = c)) (p := ⟨c, 0, none⟩) (Mod.refl _ w2) (.inl rfl) (.int .i64 (M.s p))) (.inl rfl) (.int .u32 (M.g p))
  have hxc := HX.out
  exact ⟨HA2.out.mod hMs (fun e => hxc (.inl e.symm)) (fun e => hxc (.inr (.inl e.symm))) (fun e => hxc (.inr (.inr e.symm))), (HB.out.trans HM2.out (fun _ _ h => h)).trans hMs (fun k hk e => by have := HU.out; omega)⟩
end
structure NewAt (w0 : World) (R : Int) (r : Nat) (D : Nat → Bool) (xs : Nat → Value) (w : World) : Prop where
  b : Below w0.heap.size w0 w
  e0 : D 0 = true → xs 0 = .int .i64 R
  e2 : D 2 = true → xs 2 = .int .i64 R
  e1 : D 1 = true → ∃ g, xs 1 = .slice (some ⟨g, 0, none⟩) r r ∧ w0.heap.size ≤ g ∧ ∃ cs, w.heap[g]? = some (.cells cs 30 (0, 0)) ∧ cs.size = r * 2 ∧ ∀ p, p < r → cs[p * 2]? = some (.int .i64 0) ∧ cs[p * 2 + 1]? = some (.int .u32 0)
  e3 : D 3 = true → ∃ g, xs 3 = .slice (some ⟨g, 0, none⟩) r r ∧ w0.heap.size ≤ g ∧ ∃ cs, w.heap[g]? = some (.cells cs 4 (0, 0)) ∧ cs.size = r ∧ ∀ p, p < r → cs[p]? = some (.bool false)
section
variable {w0 w w' : World} {R : Int} {r : Nat} {D : Nat → Bool} {xs : Nat → Value}
theorem NewAt.start : NewAt w0 R r (fun _ => false) (fun _ => undef) w0.drew := ⟨⟨rfl, rfl, rfl, Nat.le_refl _, fun _ _ => rfl⟩, fun h => (by cases h), fun h => (by cases h), fun h => (by cases h), fun h => (by cases h)⟩
theorem NewAt.move0 (h : NewAt w0 R r D xs w) : NewAt w0 R r (fun j => D j || j == 0) (fun j => if j = 0 then .int .i64 R else xs j) w :=
  ⟨h.b, fun _ => rfl, fun e => h.e2 (by simpa using e), fun e => h.e1 (by simpa using e), fun e => h.e3 (by simpa using e)⟩
theorem NewAt.move2 (h : NewAt w0 R r D xs w) : NewAt w0 R r (fun j => D j || j == 2) (fun j => if j = 2 then .int .i64 R else xs j) w :=
  ⟨h.b, fun e => h.e0 (by simpa using e), fun _ => rfl, fun e => h.e1 (by simpa using e), fun e => h.e3 (by simpa using e)⟩
theorem NewAt.make1 (h : NewAt w0 R r D xs w) (cs : Array Value) (hb : Below w.heap.size w w') (hg : w'.heap[w.heap.size]? = some (.cells cs 30 (0, 0))) (hs : cs.size = r * 2) (hc : ∀ p, p < r → cs[p * 2]? = some (.int .i64 0) ∧ cs[p * 2 + 1]? = some (.int .u32 0)) :
    NewAt w0 R r (fun j => D j || j == 1) (fun j => if j = 1 then .slice (some ⟨w.heap.size, 0, none⟩) r r else xs j) w' := by
  refine ⟨below_chain h.b hb h.b.size, fun e => h.e0 (by simpa using e), fun e => h.e2 (by simpa using e), fun _ => ⟨_, rfl, h.b.size, cs, hg, hs, hc⟩, fun e => ?_⟩
  obtain ⟨g, e1, e2, cs', e3, e4⟩ := h.e3 (by simpa using e)
  exact ⟨g, e1, e2, cs', (hb.block g (lt_of_block e3)).trans e3, e4⟩
theorem NewAt.make3 (h : NewAt w0 R r D xs w) (cs : Array Value) (hb : Below w.heap.size w w') (hg : w'.heap[w.heap.size]? = some (.cells cs 4 (0, 0))) (hs : cs.size = r) (hc : ∀ p, p < r → cs[p]? = some (.bool false)) :
    NewAt w0 R r (fun j => D j || j == 3) (fun j => if j = 3 then .slice (some ⟨w.heap.size, 0, none⟩) r r else xs j) w' := by
  refine ⟨below_chain h.b hb h.b.size, fun e => h.e0 (by simpa using e), fun e => h.e2 (by simpa using e), fun e => ?_, fun _ => ⟨_, rfl, h.b.size, cs, hg, hs, hc⟩⟩
  obtain ⟨g, e1, e2, cs', e3, e4⟩ := h.e1 (by simpa using e)
  exact ⟨g, e1, e2, cs', (hb.block g (lt_of_block e3)).trans e3, e4⟩
end
theorem madeCells_get {z : Array Value} {n j s : Nat} (hz : z.size = s) (hs : 0 < s) (hj : j < n) : (madeCells z n)[j]? = z[j % s]? := by
  have : j % s < z.size := by rw [hz]; exact Nat.mod_lt _ hs
  rw [Array.getElem?_eq_getElem this, ← getElem!_pos z (j % s) this]
  simp [madeCells, hj, hz]
theorem made_block {w0 w : World} {E : TypeId} {s n : Nat} {z : Array Value} (hz : z.size = s) (hs : 0 < s) (hown : w.ownsRow w0.heap.size E s (.slice (some ⟨w0.heap.size, 0, none⟩) n n) n (madeCells z (n * s)).toList) :
    ∃ cs, w.heap[w0.heap.size]? = some (.cells cs E (0, 0)) ∧ cs.size = n * s ∧ ∀ j, j < n * s → cs[j]? = z[j % s]? := by
  have hcl := hown.cellAt
  rcases hown.2 with ⟨h, _⟩ | ⟨g', cap', cur, h, h2, hg, h3⟩
  · simp at h
  · simp only [Value.slice.injEq, Option.some.injEq, Addr.mk.injEq, and_true, true_and] at h
    obtain ⟨rfl, rfl⟩ := h
    refine ⟨cur, hg, h3.2.2.1, fun j hj => ?_⟩
    rw [← cell_of hg, hcl j hj, Array.getElem?_toList]
    exact madeCells_get hz hs hj
theorem ManyL.zero {w : World} {gr gu r : Nat} {cs1 cs3 : Array Value} (h1 : w.heap[gr]? = some (.cells cs1 30 (0, 0)) ∧ cs1.size = r * 2 ∧ ∀ p, p < r → cs1[p * 2]? = some (.int .i64 0) ∧ cs1[p * 2 + 1]? = some (.int .u32 0))
    (h3 : w.heap[gu]? = some (.cells cs3 4 (0, 0)) ∧ cs3.size = r ∧ ∀ p, p < r → cs3[p]? = some (.bool false)) (r1 : 48 ≤ r) (r2 : r ≤ 256) :
    ManyL 219 30 4 (w.alloc (.cells (List.replicate 256 (Value.int .u16 0) ++ [Value.slice (some ⟨gr, 0, none⟩) r r, Value.slice (some ⟨gu, 0, none⟩) r r]).toArray 219 (0, 0))) w.heap.size gr gu r [] := by
  have l1 := lt_of_block h1.1
  have l3 := lt_of_block h3.1
  refine ⟨⟨⟨fun _ => 0, fun _ => 0, fun _ => 0, fun _ => false⟩, ⟨⟨_, heap_new _ _, by simp, fun b hb => ?_, ?_, ?_⟩, ⟨cs1, blk_alloc2 h1.1, h1.2⟩, ⟨cs3, blk_alloc2 h3.1, h3.2⟩, by omega, by omega, ?_, r1, r2, fun b _ => Nat.zero_le _⟩, MIs.zero r⟩⟩
  · rw [List.getElem?_toArray, List.getElem?_append_left (by rw [List.length_replicate]; exact hb), List.getElem?_replicate, if_pos hb]
    rfl
  · rw [List.getElem?_toArray, List.getElem?_append_right (by simp)]; simp
  · rw [List.getElem?_toArray, List.getElem?_append_right (by simp)]; simp
  · intro e
    subst e
    have := h1.1.symm.trans h3.1
    simp at this
set_option maxRecDepth 20000
set_option maxHeartbeats 4000000
theorem mNew48 (w : World) : Calls Tryz.prog 124 #[.int .i64 48] w fun e w' => ∃ x gr gu, e = .returned (.tuple #[.pointer (some ⟨x, 0, none⟩), .int .i64 0]) ∧ ManyL 219 30 4 w' x gr gu 48 [] ∧ (w.heap.size ≤ x ∧ w.heap.size ≤ gr ∧ w.heap.size ≤ gu) ∧ Below w.heap.size w w' := by
  obtain ⟨i1, hi1, hz1, hs1, hby1⟩ := info_parts (P := Tryz.prog) (e := 30) (z := .agg #[.int .i64 0, .int .u32 0]) (size := 2) (bytes := 16) (by kernel_rfl)
  obtain ⟨i2, hi2, hz2, hs2, hby2⟩ := info_parts (P := Tryz.prog) (e := 4) (z := .bool false) (size := 1) (bytes := 1) (by kernel_rfl)
  have HI1 := hid hi1
  have HZ1 := hid hz1
  have HS1 := hid hs1
  have HY1 := hid hby1
  have HI2 := hid hi2
  have HZ2 := hid hz2
  have HS2 := hid hs2
  have HY2 := hid hby2
  clear hi1 hz1 hs1 hby1 hi2 hz2 hs2 hby2
  go_enter Tryz.func124, Tryz.ntmps124
  go_wp2_with fail
  refine wp_region_val 4 (NewAt w 48 48) (by kernel_rfl) (by kernel_rfl) (by kernel_rfl) ?h0 ?hs ?hend
  case h0 => exact NewAt.start
  case hs =>
    dsimp only [List.take, AllOpsI, dsts, fill]
    refine ⟨?_, ?_, ?_, ?_⟩
    · intro D xs w1 hDk hwt hJ
      have HJ := hid hJ
      clear hDk hwt hJ
      go_wp2_with fail
      exact ⟨.int .i64 48, by kernel_rfl, fun u hu => by obtain rfl := hu rfl; exact HJ.out.move0⟩
    · intro D xs w1 hDk hwt hJ
      have e0 := hJ.e0 (hwt 0 (List.mem_of_elem_eq_true (by kernel_rfl)))
      rw [e0]
      clear e0
      have HJ := hid hJ
      clear hDk hwt hJ
      refine wpList_make_full _ rfl _ _ 43 rfl w1.heap.size 30 i1 _ 2 Tryz.underlying43 HI1.out HZ1.out HS1.out _ _ _ _ 48 rfl rfl rfl rfl (by rw [HY1.out]; omega) (by simp [maxLen]) (Nat.le_refl _) ?_
      intro w2 hown hgr
      go_wp2_with fail
      refine ⟨.slice (some ⟨w1.heap.size, 0, none⟩) 48 48, by kernel_rfl, ?_⟩
      obtain ⟨cs, g1, g2, g3⟩ := made_block (s := 2) (n := 48) rfl (by decide) hown
      exact HJ.out.make1 cs ⟨hgr.os, hgr.tape, hgr.output, hgr.size, fun k hk => hgr.block k hk (by simp)⟩ g1 g2 (fun p hp => ⟨(g3 (p * 2) (by omega)).trans (by rw [show p * 2 % 2 = 0 by omega]; rfl), (g3 (p * 2 + 1) (by omega)).trans (by rw [show (p * 2 + 1) % 2 = 1 by omega]; rfl)⟩)
    · intro D xs w1 hDk hwt hJ
      have HJ := hid hJ
      clear hDk hwt hJ
      go_wp2_with fail
      exact ⟨.int .i64 48, by kernel_rfl, fun u hu => by obtain rfl := hu rfl; exact HJ.out.move2⟩
    · intro D xs w1 hDk hwt hJ
      have e2 := hJ.e2 (hwt 2 (List.mem_of_elem_eq_true (by kernel_rfl)))
      rw [e2]
      clear e2
      have HJ := hid hJ
      clear hDk hwt hJ
      refine wpList_make_full _ rfl _ _ 213 rfl w1.heap.size 4 i2 _ 1 Tryz.underlying213 HI2.out HZ2.out HS2.out _ _ _ _ 48 rfl rfl rfl rfl (by rw [HY2.out]; omega) (by simp [maxLen]) (Nat.le_refl _) ?_
      intro w2 hown hgr
      go_wp2_with fail
      refine ⟨.slice (some ⟨w1.heap.size, 0, none⟩) 48 48, by kernel_rfl, ?_⟩
      obtain ⟨cs, g1, g2, g3⟩ := made_block (s := 1) (n := 48) rfl (by decide) hown
      exact HJ.out.make3 cs ⟨hgr.os, hgr.tape, hgr.output, hgr.size, fun k hk => hgr.block k hk (by simp)⟩ g1 (by omega) (fun p hp => (g3 p (by omega)).trans (by rw [show p % 1 = 0 by omega]; rfl))
  case hend =>
    intro D xs w1 hD hJ
    dsimp only [List.take, dsts, fill, List.drop]
    obtain ⟨gr, e1, l1, cs1, b1, s1, q1⟩ := hJ.e1 (hD 1 (by omega))
    obtain ⟨gu, e3, l3, cs3, b3, s3, q3⟩ := hJ.e3 (hD 3 (by omega))
    rw [hJ.e0 (hD 0 (by omega)), e1, hJ.e2 (hD 2 (by omega)), e3]
    have hB := hJ.b
    clear hJ e1 e3 hD
    have HR := hid (And.intro l1 (And.intro b1 (And.intro s1 q1)))
    have HU := hid (And.intro l3 (And.intro b3 (And.intro s3 q3)))
    have HB := hid hB
    clear l1 b1 s1 q1 l3 b3 s3 q3 hB
    go_wp2
    go_ret2
    have hz := ManyL.zero (r := 48) HR.out.2 HU.out.2 (by decide) (by decide)
    rw [← new_cells] at hz
    exact ⟨w1.heap.size, gr, gu, rfl, hz, ⟨HB.out.size, HR.out.1, HU.out.1⟩, HB.out.alloc HB.out.size _⟩
theorem mNew256 (w : World) : Calls Tryz.prog 124 #[.int .i64 256] w fun e w' => ∃ x gr gu, e = .returned (.tuple #[.pointer (some ⟨x, 0, none⟩), .int .i64 0]) ∧ ManyL 219 30 4 w' x gr gu 256 [] ∧ (w.heap.size ≤ x ∧ w.heap.size ≤ gr ∧ w.heap.size ≤ gu) ∧ Below w.heap.size w w' := by
  obtain ⟨i1, hi1, hz1, hs1, hby1⟩ := info_parts (P := Tryz.prog) (e := 30) (z := .agg #[.int .i64 0, .int .u32 0]) (size := 2) (bytes := 16) (by kernel_rfl)
  obtain ⟨i2, hi2, hz2, hs2, hby2⟩ := info_parts (P := Tryz.prog) (e := 4) (z := .bool false) (size := 1) (bytes := 1) (by kernel_rfl)
  have HI1 := hid hi1
  have HZ1 := hid hz1
  have HS1 := hid hs1
  have HY1 := hid hby1
  have HI2 := hid hi2
  have HZ2 := hid hz2
  have HS2 := hid hs2
  have HY2 := hid hby2
  clear hi1 hz1 hs1 hby1 hi2 hz2 hs2 hby2
  go_enter Tryz.func124, Tryz.ntmps124
  go_wp2_with fail
  refine wp_region_val 4 (NewAt w 256 256) (by kernel_rfl) (by kernel_rfl) (by kernel_rfl) ?h0 ?hs ?hend
  case h0 => exact NewAt.start
  case hs =>
    dsimp only [List.take, AllOpsI, dsts, fill]
    refine ⟨?_, ?_, ?_, ?_⟩
    · intro D xs w1 hDk hwt hJ
      have HJ := hid hJ
      clear hDk hwt hJ
      go_wp2_with fail
      exact ⟨.int .i64 256, by kernel_rfl, fun u hu => by obtain rfl := hu rfl; exact HJ.out.move0⟩
    · intro D xs w1 hDk hwt hJ
      have e0 := hJ.e0 (hwt 0 (List.mem_of_elem_eq_true (by kernel_rfl)))
      rw [e0]
      clear e0
      have HJ := hid hJ
      clear hDk hwt hJ
      refine wpList_make_full _ rfl _ _ 43 rfl w1.heap.size 30 i1 _ 2 Tryz.underlying43 HI1.out HZ1.out HS1.out _ _ _ _ 256 rfl rfl rfl rfl (by rw [HY1.out]; omega) (by simp [maxLen]) (Nat.le_refl _) ?_
      intro w2 hown hgr
      go_wp2_with fail
      refine ⟨.slice (some ⟨w1.heap.size, 0, none⟩) 256 256, by kernel_rfl, ?_⟩
      obtain ⟨cs, g1, g2, g3⟩ := made_block (s := 2) (n := 256) rfl (by decide) hown
      exact HJ.out.make1 cs ⟨hgr.os, hgr.tape, hgr.output, hgr.size, fun k hk => hgr.block k hk (by simp)⟩ g1 g2 (fun p hp => ⟨(g3 (p * 2) (by omega)).trans (by rw [show p * 2 % 2 = 0 by omega]; rfl), (g3 (p * 2 + 1) (by omega)).trans (by rw [show (p * 2 + 1) % 2 = 1 by omega]; rfl)⟩)
    · intro D xs w1 hDk hwt hJ
      have HJ := hid hJ
      clear hDk hwt hJ
      go_wp2_with fail
      exact ⟨.int .i64 256, by kernel_rfl, fun u hu => by obtain rfl := hu rfl; exact HJ.out.move2⟩
    · intro D xs w1 hDk hwt hJ
      have e2 := hJ.e2 (hwt 2 (List.mem_of_elem_eq_true (by kernel_rfl)))
      rw [e2]
      clear e2
      have HJ := hid hJ
      clear hDk hwt hJ
      refine wpList_make_full _ rfl _ _ 213 rfl w1.heap.size 4 i2 _ 1 Tryz.underlying213 HI2.out HZ2.out HS2.out _ _ _ _ 256 rfl rfl rfl rfl (by rw [HY2.out]; omega) (by simp [maxLen]) (Nat.le_refl _) ?_
      intro w2 hown hgr
      go_wp2_with fail
      refine ⟨.slice (some ⟨w1.heap.size, 0, none⟩) 256 256, by kernel_rfl, ?_⟩
      obtain ⟨cs, g1, g2, g3⟩ := made_block (s := 1) (n := 256) rfl (by decide) hown
      exact HJ.out.make3 cs ⟨hgr.os, hgr.tape, hgr.output, hgr.size, fun k hk => hgr.block k hk (by simp)⟩ g1 (by omega) (fun p hp => (g3 p (by omega)).trans (by rw [show p % 1 = 0 by omega]; rfl))
  case hend =>
    intro D xs w1 hD hJ
    dsimp only [List.take, dsts, fill, List.drop]
    obtain ⟨gr, e1, l1, cs1, b1, s1, q1⟩ := hJ.e1 (hD 1 (by omega))
    obtain ⟨gu, e3, l3, cs3, b3, s3, q3⟩ := hJ.e3 (hD 3 (by omega))
    rw [hJ.e0 (hD 0 (by omega)), e1, hJ.e2 (hD 2 (by omega)), e3]
    have hB := hJ.b
    clear hJ e1 e3 hD
    have HR := hid (And.intro l1 (And.intro b1 (And.intro s1 q1)))
    have HU := hid (And.intro l3 (And.intro b3 (And.intro s3 q3)))
    have HB := hid hB
    clear l1 b1 s1 q1 l3 b3 s3 q3 hB
    go_wp2
    go_ret2
    have hz := ManyL.zero (r := 256) HR.out.2 HU.out.2 (by decide) (by decide)
    rw [← new_cells] at hz
    exact ⟨w1.heap.size, gr, gu, rfl, hz, ⟨HB.out.size, HR.out.1, HU.out.1⟩, HB.out.alloc HB.out.size _⟩
end Go.Proofs.YtnngicopphiaaaaGreatDoor.M
