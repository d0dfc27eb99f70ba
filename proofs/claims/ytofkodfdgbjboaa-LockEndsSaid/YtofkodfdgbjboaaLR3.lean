/- The reference's locks: Begin, Check, Held. -/
import Derived.Test.YtofkodfdgbjboaaLR2
namespace Go.Proofs.Ytofkodfdgbjboaa
open Go.ChangeShapes Go.WideShapes Go.ChangeAt Go.RowKit Go.Burg
open Go.Burg.Lk

section
variable {w : World} {p : Nat} {rv wv : Value} {l : List (RefK × Wd)} {tk : Int}


theorem rbegin_any (h : RAt w p rv wv l tk) (r : RefK) (hn : l.length ≤ 100000) : Calls Try.prog 40 #[.pointer (some ⟨p, 0, none⟩), .agg #[.int .i64 r.1.1, .int .u32 r.1.2]] w fun e w' => e = .returned (.tuple #[.int .u64 (beg l r).1, .int .i64 (beg l r).2]) ∧ Below w.heap.size w w' := by
  obtain ⟨a, cap, rfl, hform⟩ := row_form h.ws
  have HA := hid (h.alloc (.cells #[.int .i64 r.1.1, .int .u32 r.1.2] 30))
  have HN := hid (heap_new w (.cells #[.int .i64 r.1.1, .int .u32 r.1.2] 30))
  have HF := hid hform
  have HB0 : Hid (Below w.heap.size w (w.alloc (.cells #[.int .i64 r.1.1, .int .u32 r.1.2] 30))) := hid ((Below.refl _ _).alloc (Nat.le_refl _) _)
  have HAT := hid (at_any (h.alloc (.cells #[.int .i64 r.1.1, .int .u32 r.1.2] 30)) r hn)
  have n0 := cell_of HN.out 0
  have n1 := cell_of HN.out 1
  clear h hform
  cases hx : idx l r with
  | none =>
    obtain ⟨hl, _⟩ := idx_none hx
    rw [hx] at HAT
    unfold beg
    rw [hl]
    clear hx hl
    go_enter Try.func40, Try.ntmps40
    go_wp2_with (go_at_call 56; refine HAT.out.mono ?_; rintro e w1 ⟨rfl, hb1⟩)
    go_ret2
    exact ⟨rfl, below_chain HB0.out hb1 HB0.out.size⟩
  | some n =>
    obtain ⟨⟨y, hy, hl⟩, _⟩ := idx_some hx
    have hlt := (List.getElem?_eq_some_iff.1 hy).1
    obtain ⟨g, rfl, hg, hc1, hc2⟩ := HF.out (by omega)
    unfold maxLen at hc2
    rw [hx] at HAT
    unfold beg
    rw [hl]
    have HP := hid (fun w => pof_any y w)
    simp only []
    clear hx hl
    generalize y.locked = lo at *
    generalize y.dead = de at *
    cases lo <;> cases de
    all_goals
      simp only [Bool.false_eq_true, if_false, if_true]
      have hnn : decide ((n : Int) < 0) = false := by simp
      go_enter Try.func40, Try.ntmps40
      go_wp2_with (go_at_call 56; refine HAT.out.mono ?_; rintro e w1 ⟨rfl, hb1⟩; have HK := hid (HA.out.keep hb1); obtain ⟨c0, c1, c2, cf, cl⟩ := rfacts HK.out; have z0 := words_cell HK.out.ws hy)
      refine (HP.out _).mono ?_
      rintro e w2 ⟨rfl, hb2⟩
      clear c0 c1 c2 cf cl z0
      have hK2 := HK.out.keep hb2
      have HB2 := hid (below_chain (below_chain HB0.out hb1 HB0.out.size) hb2 (Nat.le_trans HB0.out.size hb1.size))
      have hK3 := fun o => hid (hK2.alloc o)
      clear hK2 hb1 hb2 HK HAT HP HA HN n0 n1
      first
        | (have HK3 := hK3 ((.cells #[.int .u64 (y.1 / 4), .bool false, .bool false] 81)); obtain ⟨c0, c1, c2, cf, cl⟩ := rfacts HK3.out; have z0 := words_cell HK3.out.ws hy; clear hK3; go_wp2_with fail; go_ret2; exact ⟨rfl, HB2.out.alloc HB2.out.size _⟩)
        | (have HK3 := hK3 ((.cells #[.int .u64 (y.1 / 4), .bool false, .bool true] 81)); obtain ⟨c0, c1, c2, cf, cl⟩ := rfacts HK3.out; have z0 := words_cell HK3.out.ws hy; clear hK3; go_wp2_with fail; go_ret2; exact ⟨rfl, HB2.out.alloc HB2.out.size _⟩)
        | (have HK3 := hK3 ((.cells #[.int .u64 (y.1 / 4), .bool true, .bool false] 81)); obtain ⟨c0, c1, c2, cf, cl⟩ := rfacts HK3.out; have z0 := words_cell HK3.out.ws hy; clear hK3; go_wp2_with fail; go_ret2; exact ⟨rfl, HB2.out.alloc HB2.out.size _⟩)
        | (have HK3 := hK3 ((.cells #[.int .u64 (y.1 / 4), .bool true, .bool true] 81)); obtain ⟨c0, c1, c2, cf, cl⟩ := rfacts HK3.out; have z0 := words_cell HK3.out.ws hy; clear hK3; go_wp2_with fail; go_ret2; exact ⟨rfl, HB2.out.alloc HB2.out.size _⟩)

theorem rcheck_any (h : RAt w p rv wv l tk) (r : RefK) (x : Wd) (hn : l.length ≤ 100000) : Calls Try.prog 42 #[.pointer (some ⟨p, 0, none⟩), .agg #[.int .i64 r.1.1, .int .u32 r.1.2], .int .u64 x.1] w fun e w' => e = .returned (.bool (decide (lkp l r = some x))) ∧ Below w.heap.size w w' := by
  obtain ⟨a, cap, rfl, hform⟩ := row_form h.ws
  have HA := hid (h.alloc (.cells #[.int .i64 r.1.1, .int .u32 r.1.2] 30))
  have HN := hid (heap_new w (.cells #[.int .i64 r.1.1, .int .u32 r.1.2] 30))
  have HF := hid hform
  have HB0 : Hid (Below w.heap.size w (w.alloc (.cells #[.int .i64 r.1.1, .int .u32 r.1.2] 30))) := hid ((Below.refl _ _).alloc (Nat.le_refl _) _)
  have HAT := hid (at_any (h.alloc (.cells #[.int .i64 r.1.1, .int .u32 r.1.2] 30)) r hn)
  have n0 := cell_of HN.out 0
  have n1 := cell_of HN.out 1
  clear h hform
  cases hx : idx l r with
  | none =>
    obtain ⟨hl, _⟩ := idx_none hx
    rw [hx] at HAT
    rw [hl]
    clear hx hl
    go_enter Try.func42, Try.ntmps42
    go_wp2_with (go_at_call 56; refine HAT.out.mono ?_; rintro e w1 ⟨rfl, hb1⟩)
    go_ret
    exact ⟨by simp, below_chain HB0.out hb1 HB0.out.size⟩
  | some n =>
    obtain ⟨⟨y, hy, hl⟩, _⟩ := idx_some hx
    have hlt := (List.getElem?_eq_some_iff.1 hy).1
    obtain ⟨g, rfl, hg, hc1, hc2⟩ := HF.out (by omega)
    unfold maxLen at hc2
    rw [hx] at HAT
    rw [hl]
    have e : (decide (some y = some x)) = (y.1 == x.1) := by
      rw [Bool.eq_iff_iff]
      simp only [decide_eq_true_eq, beq_iff_eq, Option.some.injEq]
      exact ⟨fun e => by rw [e], fun e => Subtype.ext e⟩
    have E := hid e
    clear hx hl e
    have hnn : decide (0 ≤ (n : Int)) = true := by simp
    go_enter Try.func42, Try.ntmps42
    go_wp2_with (go_at_call 56; refine HAT.out.mono ?_; rintro e w1 ⟨rfl, hb1⟩; have HK := hid (HA.out.keep hb1); obtain ⟨c0, c1, c2, cf, cl⟩ := rfacts HK.out; have z0 := words_cell HK.out.ws hy)
    go_ret
    exact ⟨by rw [E.out]; rfl, below_chain HB0.out hb1 HB0.out.size⟩

set_option maxHeartbeats 1000000 in
theorem rheld_any (h : RAt w p rv wv l tk) (hn : l.length ≤ 100000) : Calls Try.prog 43 #[.pointer (some ⟨p, 0, none⟩)] w fun e w' => e = .returned (.int .i64 (heldL l)) ∧ Below w.heap.size w w' := by
  obtain ⟨a, cap, rfl, hform⟩ := row_form h.ws
  have HA := hid h
  have HF := hid hform
  clear h hform
  go_enter Try.func43, Try.ntmps43
  go_wp2_with fail
  go_loopw [3, 4] (fun nv iv wr => ∃ i : Nat, i ≤ l.length ∧ iv = .int .i64 i ∧ nv = .int .i64 (heldL (l.take i)) ∧ Below w.heap.size w wr) (fun _ iv _ => l.length - (intOf iv).toNat)
  case atStart => exact ⟨0, Nat.zero_le _, rfl, rfl, Below.refl _ _⟩
  case round =>
    obtain ⟨i, hi, rfl, rfl, hB⟩ := hrel
    have HK := hid (HA.out.keep hB)
    have HB := hid hB
    obtain ⟨c0, c1, c2, cf, cl⟩ := rfacts HK.out
    clear hB
    by_cases hlt : i < l.length
    · obtain ⟨g, rfl, hg, hc1, hc2⟩ := HF.out (by omega)
      unfold maxLen at hc2
      obtain ⟨z, hz⟩ : ∃ z, l[i]? = some z := ⟨l[i], by simp [hlt]⟩
      obtain ⟨zr, y⟩ := z
      have z0 := words_cell HK.out.ws hz
      have hcond : decide ((i : Int) < l.length) = true := by simp; exact hlt
      have hstep : heldL (l.take (i + 1)) = heldL (l.take i) + if y.held then 1 else 0 := by
        unfold heldL
        rw [List.take_add_one, hz, List.countP_append]
        simp [List.countP_cons]
      have hle : heldL (l.take i) ≤ 100000 := Nat.le_trans List.countP_le_length (by simp; omega)
      have HS := hid hstep
      have HP := hid (fun w => pof_any y w)
      unfold Wd.held at HS
      generalize heldL (l.take i) = q1 at *
      clear hz hstep
      generalize y.locked = lo at *
      generalize y.dead = de at *
      cases lo <;> cases de
      all_goals
        have hs := HS.out
        simp only [Bool.and_true, Bool.and_false, Bool.not_true, Bool.not_false, Bool.false_eq_true, if_false, if_true] at hs
        have HS2 := hid hs
        clear hs
        go_wp2_with (go_at_call 58; refine (HP.out _).mono ?_; rintro e w2 ⟨rfl, hb2⟩)
        go_roundw
        case rel => exact ⟨i + 1, by omega, by go_num, congrArg (Value.int .i64) (by have := HS2.out; omega), (below_chain HB.out hb2 HB.out.size).alloc (Nat.le_trans HB.out.size hb2.size) _⟩
        case measure => simp [intOf]; omega
    · obtain rfl : i = l.length := by omega
      have hcond : decide ((l.length : Int) < l.length) = false := by simp
      rw [List.take_length] at *
      go_wp2_with fail
      go_ret
      exact ⟨rfl, HB.out⟩

/-! ### what turns words -/
theorem setKV_map {α β : Type} [DecidableEq α] {l : List (α × β)} {k : α} {y v : β} (h : lkp l k = some y) : setKV l k v = l.map (fun x => if x.1 = k then (k, v) else x) := by
  unfold lkp at h
  unfold setKV
  rw [h]
  rfl
theorem set_at {l : List (RefK × Wd)} {r : RefK} {n : Nat} (v : Wd) (hnd : (l.map Prod.fst).Nodup) (h : idx l r = some n) : setKV l r v = l.set n (r, v) := by
  obtain ⟨⟨y, hy, hl⟩, _⟩ := idx_some h
  rw [setKV_map hl]
  apply List.ext_getElem?
  intro i
  rw [List.getElem?_map, List.getElem?_set]
  have hlt := (List.getElem?_eq_some_iff.1 hy).1
  by_cases hi : n = i
  · subst hi
    have h2 := (List.getElem?_eq_some_iff.1 hy).2
    simp [hlt, h2]
  · simp only [hi, if_false]
    cases hx : l[i]? with
    | none => rfl
    | some x =>
      have hne : x.1 ≠ r := fun he => by
        have h7 : (l.map Prod.fst)[i]? = (l.map Prod.fst)[n]? := by simp [hx, hy, he]
        have hi' : i < (l.map Prod.fst).length := by
          have := (List.getElem?_eq_some_iff.1 hx).1
          simpa using this
        exact hi (((List.getElem?_inj hi' hnd).1 h7).symm)
      simp [hne]
theorem refs_set {l : List (RefK × Wd)} {r : RefK} {n : Nat} {y v : Wd} (h : l[n]? = some (r, y)) : refsOf (l.set n (r, v)) = refsOf l := by
  have e : ∀ l : List (RefK × Wd), refsOf l = (l.map Prod.fst).flatMap fun r => [.int .i64 r.1.1, .int .u32 r.1.2] := fun l => by simp [refsOf, List.flatMap_map]
  rw [e, e]
  congr 1
  rw [List.map_set]
  apply List.ext_getElem?
  intro i
  rw [List.getElem?_set]
  by_cases hi : n = i
  · subst hi
    obtain ⟨h1, h2⟩ := List.getElem?_eq_some_iff.1 h
    simp [h1, h2]
  · simp [hi]
theorem words_set (l : List (RefK × Wd)) (r : RefK) (n : Nat) (v : Wd) : wordsOf (l.set n (r, v)) = (wordsOf l).set n (.int .u64 v.1) := by
  unfold wordsOf
  rw [List.map_set]

/-- What the reference's deeds may turn. -/
def ROwn (p : Nat) (rv wv : Value) (i : Nat) : Prop := i = p ∨ rv.ownBlock = some i ∨ wv.ownBlock = some i
theorem own_ty {w : World} {base size n b : Nat} {e t : TypeId} {v : Value} {xs : List Value} {cs : Array Value} {fz : Nat × Nat} (h : w.ownsRow base e size v n xs) (hb : w.heap[b]? = some (.cells cs t fz)) (hne : e ≠ t) : ∀ g, v.ownBlock = some g → g ≠ b := by
  intro g hg
  rcases h.2 with ⟨rfl, _⟩ | ⟨g', cap, cur, rfl, _, hh, _⟩
  · simp [Value.ownBlock] at hg
  · simp [Value.ownBlock] at hg
    subst hg
    rintro rfl
    rw [hh] at hb
    simp at hb
    exact hne hb.2.1
theorem own_same {w w' : World} {base size n : Nat} {e : TypeId} {v : Value} {xs : List Value} (h : w.ownsRow base e size v n xs) (hk : ∀ g, v.ownBlock = some g → w'.heap[g]? = w.heap[g]?) : w'.ownsRow base e size v n xs := by
  refine ⟨h.1, ?_⟩
  rcases h.2 with h0 | ⟨g, cap, cur, rfl, hb, hg, hr⟩
  · exact .inl h0
  · exact .inr ⟨g, cap, cur, rfl, hb, (hk g rfl).trans hg, hr⟩

/-- A word is stored. -/
theorem RAt.store {g cap n : Nat} {r : RefK} {y : Wd} (h : RAt w p rv (.slice (some ⟨g, 0, none⟩) l.length cap) l tk) (v : Wd) (hy : l[n]? = some (r, y)) :
    RAt (w.setCell ⟨g, n, none⟩ (.int .u64 v.1)) p rv (.slice (some ⟨g, 0, none⟩) l.length cap) (l.set n (r, v)) tk ∧ Mod (ROwn p rv (.slice (some ⟨g, 0, none⟩) l.length cap)) w (w.setCell ⟨g, n, none⟩ (.int .u64 v.1)) := by
  have hgp : g ≠ p := own_ty h.ws h.hd (by decide) g rfl
  have hgr : ∀ k, rv.ownBlock = some k → k ≠ g := by
    rcases h.ws.2 with ⟨e, _⟩ | ⟨g', cap', cur, e, _, hh, _⟩
    · cases e
    · cases e
      exact own_ty h.rs hh (by decide)
  refine ⟨⟨(Below.heap_setCell _ _ _ _ (Ne.symm hgp)).trans h.hd, ?_, ?_⟩, Mod.setCell (Mod.refl _ _) (.inl (.inr (.inr rfl))) _⟩
  · rw [refs_set hy, List.length_set]
    exact own_same h.rs fun k hk => Below.heap_setCell _ _ _ _ (hgr k hk)
  · rw [words_set, List.length_set]
    have := World.ownsRow.stored h.ws n (.int .u64 v.1)
    exact this.1
end
end Go.Proofs.Ytofkodfdgbjboaa
