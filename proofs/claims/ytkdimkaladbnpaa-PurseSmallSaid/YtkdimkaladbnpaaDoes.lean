/- The law's 'does': an operation on both. -/
import Derived.Test.YtkdimkaladbnpaaRef5
import Derived.Test.YtkdimkaladbnpaaTurn2
namespace Go.Proofs.Ytkdimkaladbnpaa
open Go.ChangeShapes Go.WideShapes Go.ChangeAt Go.RowKit Go.Burg
open Go.Burg.Purse

section
variable {r r' : RSt} {v : Value} {w : World} {t k y e' : Int}
theorem rcom_at (h : TkAt w v r.T) (hi : RInv r) (hn : r.T.length ≤ 999) (he : r.com t = (r', e')) : Calls Try.prog 31 #[.agg #[.int .u64 r.xk, .int .u64 r.xb, .int .u64 r.hk, .int .u64 r.hb, v], .int .i64 t] w fun e w' => ∃ v',
      e = .returned (.tuple #[.agg #[.int .u64 r'.xk, .int .u64 r'.xb, .int .u64 r'.hk, .int .u64 r'.hb, v'], .int .i64 e']) ∧ TkAt w' v' r'.T ∧ Below w.heap.size w w' := by
  have := rcommit_any w t h hi (by omega)
  rwa [he] at this
theorem rref_at (h : TkAt w v r.T) (hn : r.T.length ≤ 999) (he : r.ref t = (r', e')) : Calls Try.prog 32 #[.agg #[.int .u64 r.xk, .int .u64 r.xb, .int .u64 r.hk, .int .u64 r.hb, v], .int .i64 t] w fun e w' => ∃ v',
      e = .returned (.tuple #[.agg #[.int .u64 r'.xk, .int .u64 r'.xb, .int .u64 r'.hk, .int .u64 r'.hb, v'], .int .i64 e']) ∧ TkAt w' v' r'.T ∧ Below w.heap.size w w' := by
  have := rrefund_any w t h (by omega)
  rwa [he] at this
theorem rtake_at (h : TkAt w v r.T) (hi : RInv r) (hn : r.T.length ≤ 999) (hk : 0 ≤ k) (hy : 0 ≤ y) (he : r.take k y = (r', e')) : Calls Try.prog 33 #[.agg #[.int .u64 r.xk, .int .u64 r.xb, .int .u64 r.hk, .int .u64 r.hb, v], .int .u64 k, .int .u64 y] w fun e w' => ∃ v',
      e = .returned (.tuple #[.agg #[.int .u64 r'.xk, .int .u64 r'.xb, .int .u64 r'.hk, .int .u64 r'.hb, v'], .int .i64 e']) ∧ TkAt w' v' r'.T ∧ Below w.heap.size w w' := by
  have hT : r'.T = r.T := by unfold RSt.take at he; split at he <;> (cases he; rfl)
  refine (rtake_any w k y h hi (by omega) hk hy).mono ?_
  rintro e w' ⟨rfl, hb⟩
  rw [he]
  exact ⟨_, rfl, by rw [hT]; exact h.keep hb, hb⟩
theorem rpay_at (h : TkAt w v r.T) (hi : RInv r) (hk : 0 ≤ k) (hy : 0 ≤ y) (he : r.pay k y = (r', e')) : Calls Try.prog 34 #[.agg #[.int .u64 r.xk, .int .u64 r.xb, .int .u64 r.hk, .int .u64 r.hb, v], .int .u64 k, .int .u64 y] w fun e w' => ∃ v',
      e = .returned (.tuple #[.agg #[.int .u64 r'.xk, .int .u64 r'.xb, .int .u64 r'.hk, .int .u64 r'.hb, v'], .int .i64 e']) ∧ TkAt w' v' r'.T ∧ Below w.heap.size w w' := by
  have hT : r'.T = r.T := by unfold RSt.pay at he; split at he <;> (cases he; rfl)
  refine (rpay_any w k y h hi hk hy).mono ?_
  rintro e w' ⟨rfl, hb⟩
  rw [he]
  exact ⟨_, rfl, by rw [hT]; exact h.keep hb, hb⟩
theorem rres_at {n : Int} (h : TkAt w v r.T) (hi : RInv r) (hn : r.T.length ≤ 999) (he : r.res k y = (r', n, e')) : Calls Try.prog 35 #[.agg #[.int .u64 r.xk, .int .u64 r.xb, .int .u64 r.hk, .int .u64 r.hb, v], .int .u64 k, .int .u64 y] w fun e w' => ∃ v',
      e = .returned (.tuple #[.agg #[.int .u64 r'.xk, .int .u64 r'.xb, .int .u64 r'.hk, .int .u64 r'.hb, v'], .int .i64 n, .int .i64 e']) ∧ TkAt w' v' r'.T ∧ Below w.heap.size w w' := by
  have := rreserve_any w k y h hi hn
  rwa [he] at this
end

theorem tk_mod {w1 w2 : World} {b m : Nat} {s : St} {v : Value} {T : List Tk} (h : TkAt w1 v T) (hp : PurseAt w1 b m s) (hM : Mod (Own b m) w1 w2) : TkAt w2 v T := by
  refine own_same h fun g hg => hM.block g ((World.ownsRow.lt h g hg).2) ?_
  rintro (rfl | rfl)
  · exact own_ty h hp.1 (by decide) g hg rfl
  · obtain ⟨es, c, h1, _⟩ := hp.2
    rcases h.2 with ⟨rfl, _⟩ | ⟨g', cap, cur, rfl, _, hh, _⟩
    · simp [Value.ownBlock] at hg
    · simp [Value.ownBlock] at hg
      subst hg
      rw [hh] at h1
      cases h1

/-- What holds while 'does' returns. -/
structure DS (w : World) (b m nb : Nat) (what t k y : Int) (s : St) (r' : RSt) (v' : Value) (res : Array Value) (w1 : World) : Prop where
  pu : PurseAt w1 b m s
  dbox : w1.heap[w.heap.size + 1]? = some (.cells #[.int .i64 what, .int .i64 t, .int .u64 k, .int .u64 y] 33)
  nbox : w1.heap[nb]? = some (.cells #[.int .u64 r'.xk, .int .u64 r'.xb, .int .u64 r'.hk, .int .u64 r'.hb, v'] 39)
  rbox : w1.heap[w.heap.size + 2]? = some (.cells res 39 (0, 0))
  tk : TkAt w1 v' r'.T
  mod : Mod (Own b m) w w1
  lb : b < w.heap.size
  lm : m < w.heap.size
  ln : w.heap.size + 2 < nb

section
variable {w w1 w2 : World} {b m nb : Nat} {what t k y : Int} {s s' : St} {r' : RSt} {v' : Value} {res : Array Value}
theorem DS.drew (h : DS w b m nb what t k y s r' v' res w1) : DS w b m nb what t k y s r' v' res w1.drew := ⟨⟨h.pu.1, h.pu.2⟩, h.dbox, h.nbox, h.rbox, h.tk, h.mod.drew, h.lb, h.lm, h.ln⟩
theorem DS.set (h : DS w b m nb what t k y s r' v' res w1) (i : Nat) (u : Value) : DS w b m nb what t k y s r' v' (res.setIfInBounds i u) (w1.setCell ⟨w.heap.size + 2, i, none⟩ u) := by
  have lb := h.lb
  have lm := h.lm
  have ln := h.ln
  exact ⟨h.pu.setCell (by simp; omega) (by simp; omega) _, (Below.heap_setCell _ _ _ _ (by simp)).trans h.dbox, (Below.heap_setCell _ _ _ _ (by simp; omega)).trans h.nbox, heap_set h.rbox, own_set h.tk (own_ty h.tk h.rbox (by decide)) _, h.mod.setCell (.inr (by simp)) _, h.lb, h.lm, h.ln⟩
theorem DS.turn (h : DS w b m nb what t k y s r' v' res w1) (hp : PurseAt w2 b m s') (hM : Mod (Own b m) w1 w2) : DS w b m nb what t k y s' r' v' res w2 := by
  have lb := h.lb
  have lm := h.lm
  have ln := h.ln
  have k : ∀ (i : Nat) o, w.heap.size ≤ i → w1.heap[i]? = some o → w2.heap[i]? = some o := fun i o hi ho => (hM.block i (lt_of_block ho) (by rintro (h | h) <;> omega)).trans ho
  exact ⟨hp, k _ _ (by omega) h.dbox, k _ _ (by omega) h.nbox, k _ _ (by omega) h.rbox, tk_mod h.tk h.pu hM, h.mod.trans hM fun _ _ h => h, h.lb, h.lm, h.ln⟩
end


set_option maxHeartbeats 2000000 in
theorem does_com {w : World} {b m : Nat} {s : St} {r : RSt} {v : Value} (hP : PurseAt w b m s) (hi : Inv s) (hl : s.last < 900) (hg : Goes s r) (hT : TkAt w v r.T) (what t k y : Int) (hp : what % 6 = 2) :
    Calls Try.prog 15 #[.pointer (some ⟨b, 0, none⟩), .agg #[.int .u64 r.xk, .int .u64 r.xb, .int .u64 r.hk, .int .u64 r.hb, v], .agg #[.int .i64 what, .int .i64 t, .int .u64 k, .int .u64 y]] w fun e w' => ∃ v', e = .returned (.tuple #[.agg #[.int .u64 (r.com t).1.xk, .int .u64 (r.com t).1.xb, .int .u64 (r.com t).1.hk, .int .u64 (r.com t).1.hb, v'], .bool true]) ∧ PurseAt w' b m (s.com t).2 ∧ TkAt w' v' (r.com t).1.T ∧ Mod (Own b m) w w' := by
  obtain ⟨a, cap, rfl, _⟩ := hT.form
  have hA := ((hP.alloc (.cells #[.int .u64 r.xk, .int .u64 r.xb, .int .u64 r.hk, .int .u64 r.hb, (.slice a r.T.length cap)] 39)).alloc (.cells #[.int .i64 what, .int .i64 t, .int .u64 k, .int .u64 y] 33)).alloc (.cells #[.int .u64 0, .int .u64 0, .int .u64 0, .int .u64 0, .slice none 0 0] 39)
  have hT3 := ((hT.alloc (.cells #[.int .u64 r.xk, .int .u64 r.xb, .int .u64 r.hk, .int .u64 r.hb, (.slice a r.T.length cap)] 39)).alloc (.cells #[.int .i64 what, .int .i64 t, .int .u64 k, .int .u64 y] 33)).alloc (.cells #[.int .u64 0, .int .u64 0, .int .u64 0, .int .u64 0, .slice none 0 0] 39)
  have h1 : (((w.alloc (.cells #[.int .u64 r.xk, .int .u64 r.xb, .int .u64 r.hk, .int .u64 r.hb, (.slice a r.T.length cap)] 39)).alloc (.cells #[.int .i64 what, .int .i64 t, .int .u64 k, .int .u64 y] 33)).alloc (.cells #[.int .u64 0, .int .u64 0, .int .u64 0, .int .u64 0, .slice none 0 0] 39)).heap[w.heap.size + 1]? = some (.cells #[.int .i64 what, .int .i64 t, .int .u64 k, .int .u64 y] 33) := blk_alloc (heap_at (.cells #[.int .i64 what, .int .i64 t, .int .u64 k, .int .u64 y] 33) (by simp))
  have h2 : (((w.alloc (.cells #[.int .u64 r.xk, .int .u64 r.xb, .int .u64 r.hk, .int .u64 r.hb, (.slice a r.T.length cap)] 39)).alloc (.cells #[.int .i64 what, .int .i64 t, .int .u64 k, .int .u64 y] 33)).alloc (.cells #[.int .u64 0, .int .u64 0, .int .u64 0, .int .u64 0, .slice none 0 0] 39)).heap[w.heap.size + 2]? = some (.cells #[.int .u64 0, .int .u64 0, .int .u64 0, .int .u64 0, .slice none 0 0] 39) := heap_at (.cells #[.int .u64 0, .int .u64 0, .int .u64 0, .int .u64 0, .slice none 0 0] 39) (by simp)
  have hM : Mod (Own b m) w (((w.alloc (.cells #[.int .u64 r.xk, .int .u64 r.xb, .int .u64 r.hk, .int .u64 r.hb, (.slice a r.T.length cap)] 39)).alloc (.cells #[.int .i64 what, .int .i64 t, .int .u64 k, .int .u64 y] 33)).alloc (.cells #[.int .u64 0, .int .u64 0, .int .u64 0, .int .u64 0, .slice none 0 0] 39)) := (((Mod.refl _ _).alloc _).alloc _).alloc _
  obtain ⟨g1, g2⟩ := hg.com hi t
  obtain ⟨r', e', hre⟩ : ∃ r' e', r.com t = (r', e') := ⟨_, _, rfl⟩
  obtain ⟨s', hse⟩ : ∃ s', s.com t = (e', s') := ⟨(s.com t).2, by rw [hre] at g2; exact Prod.ext g2 rfl⟩
  have HR := hid (rcom_at hT3 (hg.inv hi) (by have := hg.last; omega) hre)
  have HQ := hid (fun (w1 : World) (h : PurseAt w1 b m s) => commit_at h hi t)
  rw [hse] at HQ
  rw [hre, hse]
  have HI := hid (pick_any what 6 2 (((w.alloc (.cells #[.int .u64 r.xk, .int .u64 r.xb, .int .u64 r.hk, .int .u64 r.hb, (.slice a r.T.length cap)] 39)).alloc (.cells #[.int .i64 what, .int .i64 t, .int .u64 k, .int .u64 y] 33)).alloc (.cells #[.int .u64 0, .int .u64 0, .int .u64 0, .int .u64 0, .slice none 0 0] 39)) (by omega) (by omega) hp)
  have HA := hid hA
  have H1 := hid h1
  have H2 := hid h2
  have HM := hid hM
  have hlb := hP.lt.1
  have hlm := hP.lt.2
  clear g1 g2 hre hse hP hi hl hg hT hA hT3 h1 h2 hM hp
  go_enter Try.func15, Try.ntmps15
  go_wp2_with (go_at_call 24; refine HI.out.mono ?_; rintro e w' ⟨rfl, rfl⟩)
  refine HR.out.mono ?_
  rintro e w2 ⟨v1, rfl, hv1, hB⟩
  obtain ⟨a6, c6, rfl, _⟩ := hv1.form
  have hz := hB.size
  simp only [World.size_alloc] at hz
  have k1 := blk_below H1.out hB (lt_of_block H1.out)
  have d0 := cell_of k1 0
  have d1 := cell_of k1 1
  have d2 := cell_of k1 2
  have d3 := cell_of k1 3
  have HS : Hid (DS w b m w2.heap.size what t k y s r' (.slice a6 r'.T.length c6) #[.int .u64 0, .int .u64 0, .int .u64 0, .int .u64 0, .slice none 0 0] (w2.alloc (.cells #[.int .u64 r'.xk, .int .u64 r'.xb, .int .u64 r'.hk, .int .u64 r'.hb, (.slice a6 r'.T.length c6)] 39))) :=
    hid ⟨(HA.out.keep hB).alloc _, blk_alloc k1, heap_new _ _, blk_alloc (blk_below H2.out hB (lt_of_block H2.out)), hv1.alloc _, (HM.out.trans (S' := fun _ => False) (Mod.ofBelow hB) (fun _ _ h => h.elim)).alloc _, hlb, hlm, by omega⟩
  clear hv1 hB k1 HA H1 H2 HM
  go_wp2_with fail
  generalize w2.alloc (.cells #[.int .u64 r'.xk, .int .u64 r'.xb, .int .u64 r'.hk, .int .u64 r'.hb, (.slice a6 r'.T.length c6)] 39) = W at *
  clear d0 d1 d2 d3
  refine wp_region_seqI 9 (Turn2 4 7 (fun b1 b2 w1 => DS w b m w2.heap.size what t k y (cond b1 s' s) r' (.slice a6 r'.T.length c6) (cond b2 #[.int .u64 r'.xk, .int .u64 r'.xb, .int .u64 r'.hk, .int .u64 r'.hb, (.slice a6 r'.T.length c6)] #[.int .u64 0, .int .u64 0, .int .u64 0, .int .u64 0, .slice none 0 0]) w1)) (by kernel_rfl) (by kernel_rfl) (by kernel_rfl) (Turn2.start HS.out.drew) ?_
  dsimp only [List.take]
  iterate 4
    refine Seq2.calm (a' := ?_) (by decide) (by decide) ?_ ?_ ?_
    rotate_left
    ·
      intro b1 b2 w1 hw1
      have HW1 := hid hw1
      have hd := hw1.dbox
      have hn := hw1.nbox
      have d0 := cell_of hd 0
      have d1 := cell_of hd 1
      have d2 := cell_of hd 2
      have d3 := cell_of hd 3
      have n0 := cell_of hn 0
      have n1 := cell_of hn 1
      have n2 := cell_of hn 2
      have n3 := cell_of hn 3
      have n4 := cell_of hn 4
      clear hd hn
      clear hw1
      go_wp2_with (fail)
      refine ⟨?_, HW1.out⟩
      exact rfl
    · kernel_rfl
  refine Seq2.fst (a' := ?_) (by decide) ?_ ?_ ?_
  rotate_left
  ·
    intro b2 w1 hw1
    have H0 := hid hw1
    clear hw1
    go_wp2_with (go_at_call 13; refine (HQ.out _ H0.out.pu).mono ?_; rintro e w3 ⟨rfl, hP2, hM2⟩)
    refine ⟨?_, H0.out.turn hP2 hM2⟩
    exact rfl
  · kernel_rfl
  iterate 2
    refine Seq2.calm (a' := ?_) (by decide) (by decide) ?_ ?_ ?_
    rotate_left
    ·
      intro b1 b2 w1 hw1
      have HW1 := hid hw1
      have hd := hw1.dbox
      have hn := hw1.nbox
      have d0 := cell_of hd 0
      have d1 := cell_of hd 1
      have d2 := cell_of hd 2
      have d3 := cell_of hd 3
      have n0 := cell_of hn 0
      have n1 := cell_of hn 1
      have n2 := cell_of hn 2
      have n3 := cell_of hn 3
      have n4 := cell_of hn 4
      clear hd hn
      clear hw1
      go_wp2_with (fail)
      refine ⟨?_, HW1.out⟩
      exact rfl
    · kernel_rfl
  refine Seq2.snd (a' := ?_) (by decide) ?_ ?_ ?_
  rotate_left
  ·
    intro b1 w1 hw1
    have hr := hw1.rbox
    have m0 := cell_of hr 0
    have m1 := cell_of hr 1
    have m2 := cell_of hr 2
    have m3 := cell_of hr 3
    have m4 := cell_of hr 4
    have mf := free_of hr
    have hlt := lt_of_block hr
    have H0 := hid hw1
    clear hw1 hr
    go_wp2_with (fail)
    refine ⟨?_, ((((H0.out.set 0 _).set 1 _).set 2 _).set 3 _).set 4 _⟩
    exact rfl
  · kernel_rfl
  iterate 1
    refine Seq2.calm (a' := ?_) (by decide) (by decide) ?_ ?_ ?_
    rotate_left
    ·
      intro b1 b2 w1 hw1
      have HW1 := hid hw1
      have hd := hw1.dbox
      have hn := hw1.nbox
      have d0 := cell_of hd 0
      have d1 := cell_of hd 1
      have d2 := cell_of hd 2
      have d3 := cell_of hd 3
      have n0 := cell_of hn 0
      have n1 := cell_of hn 1
      have n2 := cell_of hn 2
      have n3 := cell_of hn 3
      have n4 := cell_of hn 4
      clear hd hn
      clear hw1
      go_wp2_with (fail)
      refine ⟨?_, HW1.out⟩
      exact rfl
    · kernel_rfl
  refine SeqI.nil ?_
  intro D w1 hD hI
  replace hI := hI.done (hD 4 (by omega)) (hD 7 (by omega))
  clear hD
  dsimp only [List.drop]
  have hr := hI.rbox
  have m0 := cell_of hr 0
  have m1 := cell_of hr 1
  have m2 := cell_of hr 2
  have m3 := cell_of hr 3
  have m4 := cell_of hr 4
  have H0 := hid hI
  clear hI hr
  go_wp2_with fail
  refine bodyPost_ret (v := .tuple #[.agg #[.int .u64 r'.xk, .int .u64 r'.xb, .int .u64 r'.hk, .int .u64 r'.hb, (.slice a6 r'.T.length c6)], .bool true]) (by simp [results, Try.results15, go_sem, m0, m1, m2, m3, m4]) rfl ⟨_, rfl, H0.out.pu, H0.out.tk, H0.out.mod⟩

set_option maxHeartbeats 2000000 in
theorem does_ref {w : World} {b m : Nat} {s : St} {r : RSt} {v : Value} (hP : PurseAt w b m s) (hi : Inv s) (hl : s.last < 900) (hg : Goes s r) (hT : TkAt w v r.T) (what t k y : Int) (hp : what % 6 = 3) :
    Calls Try.prog 15 #[.pointer (some ⟨b, 0, none⟩), .agg #[.int .u64 r.xk, .int .u64 r.xb, .int .u64 r.hk, .int .u64 r.hb, v], .agg #[.int .i64 what, .int .i64 t, .int .u64 k, .int .u64 y]] w fun e w' => ∃ v', e = .returned (.tuple #[.agg #[.int .u64 (r.ref t).1.xk, .int .u64 (r.ref t).1.xb, .int .u64 (r.ref t).1.hk, .int .u64 (r.ref t).1.hb, v'], .bool true]) ∧ PurseAt w' b m (s.ref t).2 ∧ TkAt w' v' (r.ref t).1.T ∧ Mod (Own b m) w w' := by
  obtain ⟨a, cap, rfl, _⟩ := hT.form
  have hA := ((hP.alloc (.cells #[.int .u64 r.xk, .int .u64 r.xb, .int .u64 r.hk, .int .u64 r.hb, (.slice a r.T.length cap)] 39)).alloc (.cells #[.int .i64 what, .int .i64 t, .int .u64 k, .int .u64 y] 33)).alloc (.cells #[.int .u64 0, .int .u64 0, .int .u64 0, .int .u64 0, .slice none 0 0] 39)
  have hT3 := ((hT.alloc (.cells #[.int .u64 r.xk, .int .u64 r.xb, .int .u64 r.hk, .int .u64 r.hb, (.slice a r.T.length cap)] 39)).alloc (.cells #[.int .i64 what, .int .i64 t, .int .u64 k, .int .u64 y] 33)).alloc (.cells #[.int .u64 0, .int .u64 0, .int .u64 0, .int .u64 0, .slice none 0 0] 39)
  have h1 : (((w.alloc (.cells #[.int .u64 r.xk, .int .u64 r.xb, .int .u64 r.hk, .int .u64 r.hb, (.slice a r.T.length cap)] 39)).alloc (.cells #[.int .i64 what, .int .i64 t, .int .u64 k, .int .u64 y] 33)).alloc (.cells #[.int .u64 0, .int .u64 0, .int .u64 0, .int .u64 0, .slice none 0 0] 39)).heap[w.heap.size + 1]? = some (.cells #[.int .i64 what, .int .i64 t, .int .u64 k, .int .u64 y] 33) := blk_alloc (heap_at (.cells #[.int .i64 what, .int .i64 t, .int .u64 k, .int .u64 y] 33) (by simp))
  have h2 : (((w.alloc (.cells #[.int .u64 r.xk, .int .u64 r.xb, .int .u64 r.hk, .int .u64 r.hb, (.slice a r.T.length cap)] 39)).alloc (.cells #[.int .i64 what, .int .i64 t, .int .u64 k, .int .u64 y] 33)).alloc (.cells #[.int .u64 0, .int .u64 0, .int .u64 0, .int .u64 0, .slice none 0 0] 39)).heap[w.heap.size + 2]? = some (.cells #[.int .u64 0, .int .u64 0, .int .u64 0, .int .u64 0, .slice none 0 0] 39) := heap_at (.cells #[.int .u64 0, .int .u64 0, .int .u64 0, .int .u64 0, .slice none 0 0] 39) (by simp)
  have hM : Mod (Own b m) w (((w.alloc (.cells #[.int .u64 r.xk, .int .u64 r.xb, .int .u64 r.hk, .int .u64 r.hb, (.slice a r.T.length cap)] 39)).alloc (.cells #[.int .i64 what, .int .i64 t, .int .u64 k, .int .u64 y] 33)).alloc (.cells #[.int .u64 0, .int .u64 0, .int .u64 0, .int .u64 0, .slice none 0 0] 39)) := (((Mod.refl _ _).alloc _).alloc _).alloc _
  obtain ⟨g1, g2⟩ := hg.ref hi t
  obtain ⟨r', e', hre⟩ : ∃ r' e', r.ref t = (r', e') := ⟨_, _, rfl⟩
  obtain ⟨s', hse⟩ : ∃ s', s.ref t = (e', s') := ⟨(s.ref t).2, by rw [hre] at g2; exact Prod.ext g2 rfl⟩
  have HR := hid (rref_at hT3 (by have := hg.last; omega) hre)
  have HQ := hid (fun (w1 : World) (h : PurseAt w1 b m s) => refund_at h hi t)
  rw [hse] at HQ
  rw [hre, hse]
  have HI := hid (pick_any what 6 3 (((w.alloc (.cells #[.int .u64 r.xk, .int .u64 r.xb, .int .u64 r.hk, .int .u64 r.hb, (.slice a r.T.length cap)] 39)).alloc (.cells #[.int .i64 what, .int .i64 t, .int .u64 k, .int .u64 y] 33)).alloc (.cells #[.int .u64 0, .int .u64 0, .int .u64 0, .int .u64 0, .slice none 0 0] 39)) (by omega) (by omega) hp)
  have HA := hid hA
  have H1 := hid h1
  have H2 := hid h2
  have HM := hid hM
  have hlb := hP.lt.1
  have hlm := hP.lt.2
  clear g1 g2 hre hse hP hi hl hg hT hA hT3 h1 h2 hM hp
  go_enter Try.func15, Try.ntmps15
  go_wp2_with (go_at_call 24; refine HI.out.mono ?_; rintro e w' ⟨rfl, rfl⟩)
  refine HR.out.mono ?_
  rintro e w2 ⟨v1, rfl, hv1, hB⟩
  obtain ⟨a6, c6, rfl, _⟩ := hv1.form
  have hz := hB.size
  simp only [World.size_alloc] at hz
  have k1 := blk_below H1.out hB (lt_of_block H1.out)
  have d0 := cell_of k1 0
  have d1 := cell_of k1 1
  have d2 := cell_of k1 2
  have d3 := cell_of k1 3
  have HS : Hid (DS w b m w2.heap.size what t k y s r' (.slice a6 r'.T.length c6) #[.int .u64 0, .int .u64 0, .int .u64 0, .int .u64 0, .slice none 0 0] (w2.alloc (.cells #[.int .u64 r'.xk, .int .u64 r'.xb, .int .u64 r'.hk, .int .u64 r'.hb, (.slice a6 r'.T.length c6)] 39))) :=
    hid ⟨(HA.out.keep hB).alloc _, blk_alloc k1, heap_new _ _, blk_alloc (blk_below H2.out hB (lt_of_block H2.out)), hv1.alloc _, (HM.out.trans (S' := fun _ => False) (Mod.ofBelow hB) (fun _ _ h => h.elim)).alloc _, hlb, hlm, by omega⟩
  clear hv1 hB k1 HA H1 H2 HM
  go_wp2_with fail
  generalize w2.alloc (.cells #[.int .u64 r'.xk, .int .u64 r'.xb, .int .u64 r'.hk, .int .u64 r'.hb, (.slice a6 r'.T.length c6)] 39) = W at *
  clear d0 d1 d2 d3
  refine wp_region_seqI 9 (Turn2 4 7 (fun b1 b2 w1 => DS w b m w2.heap.size what t k y (cond b1 s' s) r' (.slice a6 r'.T.length c6) (cond b2 #[.int .u64 r'.xk, .int .u64 r'.xb, .int .u64 r'.hk, .int .u64 r'.hb, (.slice a6 r'.T.length c6)] #[.int .u64 0, .int .u64 0, .int .u64 0, .int .u64 0, .slice none 0 0]) w1)) (by kernel_rfl) (by kernel_rfl) (by kernel_rfl) (Turn2.start HS.out.drew) ?_
  dsimp only [List.take]
  iterate 4
    refine Seq2.calm (a' := ?_) (by decide) (by decide) ?_ ?_ ?_
    rotate_left
    ·
      intro b1 b2 w1 hw1
      have HW1 := hid hw1
      have hd := hw1.dbox
      have hn := hw1.nbox
      have d0 := cell_of hd 0
      have d1 := cell_of hd 1
      have d2 := cell_of hd 2
      have d3 := cell_of hd 3
      have n0 := cell_of hn 0
      have n1 := cell_of hn 1
      have n2 := cell_of hn 2
      have n3 := cell_of hn 3
      have n4 := cell_of hn 4
      clear hd hn
      clear hw1
      go_wp2_with (fail)
      refine ⟨?_, HW1.out⟩
      exact rfl
    · kernel_rfl
  refine Seq2.fst (a' := ?_) (by decide) ?_ ?_ ?_
  rotate_left
  ·
    intro b2 w1 hw1
    have H0 := hid hw1
    clear hw1
    go_wp2_with (go_at_call 14; refine (HQ.out _ H0.out.pu).mono ?_; rintro e w3 ⟨rfl, hP2, hM2⟩)
    refine ⟨?_, H0.out.turn hP2 hM2⟩
    exact rfl
  · kernel_rfl
  iterate 2
    refine Seq2.calm (a' := ?_) (by decide) (by decide) ?_ ?_ ?_
    rotate_left
    ·
      intro b1 b2 w1 hw1
      have HW1 := hid hw1
      have hd := hw1.dbox
      have hn := hw1.nbox
      have d0 := cell_of hd 0
      have d1 := cell_of hd 1
      have d2 := cell_of hd 2
      have d3 := cell_of hd 3
      have n0 := cell_of hn 0
      have n1 := cell_of hn 1
      have n2 := cell_of hn 2
      have n3 := cell_of hn 3
      have n4 := cell_of hn 4
      clear hd hn
      clear hw1
      go_wp2_with (fail)
      refine ⟨?_, HW1.out⟩
      exact rfl
    · kernel_rfl
  refine Seq2.snd (a' := ?_) (by decide) ?_ ?_ ?_
  rotate_left
  ·
    intro b1 w1 hw1
    have hr := hw1.rbox
    have m0 := cell_of hr 0
    have m1 := cell_of hr 1
    have m2 := cell_of hr 2
    have m3 := cell_of hr 3
    have m4 := cell_of hr 4
    have mf := free_of hr
    have hlt := lt_of_block hr
    have H0 := hid hw1
    clear hw1 hr
    go_wp2_with (fail)
    refine ⟨?_, ((((H0.out.set 0 _).set 1 _).set 2 _).set 3 _).set 4 _⟩
    exact rfl
  · kernel_rfl
  iterate 1
    refine Seq2.calm (a' := ?_) (by decide) (by decide) ?_ ?_ ?_
    rotate_left
    ·
      intro b1 b2 w1 hw1
      have HW1 := hid hw1
      have hd := hw1.dbox
      have hn := hw1.nbox
      have d0 := cell_of hd 0
      have d1 := cell_of hd 1
      have d2 := cell_of hd 2
      have d3 := cell_of hd 3
      have n0 := cell_of hn 0
      have n1 := cell_of hn 1
      have n2 := cell_of hn 2
      have n3 := cell_of hn 3
      have n4 := cell_of hn 4
      clear hd hn
      clear hw1
      go_wp2_with (fail)
      refine ⟨?_, HW1.out⟩
      exact rfl
    · kernel_rfl
  refine SeqI.nil ?_
  intro D w1 hD hI
  replace hI := hI.done (hD 4 (by omega)) (hD 7 (by omega))
  clear hD
  dsimp only [List.drop]
  have hr := hI.rbox
  have m0 := cell_of hr 0
  have m1 := cell_of hr 1
  have m2 := cell_of hr 2
  have m3 := cell_of hr 3
  have m4 := cell_of hr 4
  have H0 := hid hI
  clear hI hr
  go_wp2_with fail
  refine bodyPost_ret (v := .tuple #[.agg #[.int .u64 r'.xk, .int .u64 r'.xb, .int .u64 r'.hk, .int .u64 r'.hb, (.slice a6 r'.T.length c6)], .bool true]) (by simp [results, Try.results15, go_sem, m0, m1, m2, m3, m4]) rfl ⟨_, rfl, H0.out.pu, H0.out.tk, H0.out.mod⟩

set_option maxHeartbeats 2000000 in
theorem does_take {w : World} {b m : Nat} {s : St} {r : RSt} {v : Value} (hP : PurseAt w b m s) (hi : Inv s) (hl : s.last < 900) (hg : Goes s r) (hT : TkAt w v r.T) (what t k y : Int) (hp : what % 6 = 4) (hk : 0 ≤ k) (hy : 0 ≤ y) :
    Calls Try.prog 15 #[.pointer (some ⟨b, 0, none⟩), .agg #[.int .u64 r.xk, .int .u64 r.xb, .int .u64 r.hk, .int .u64 r.hb, v], .agg #[.int .i64 what, .int .i64 t, .int .u64 k, .int .u64 y]] w fun e w' => ∃ v', e = .returned (.tuple #[.agg #[.int .u64 (r.take k y).1.xk, .int .u64 (r.take k y).1.xb, .int .u64 (r.take k y).1.hk, .int .u64 (r.take k y).1.hb, v'], .bool true]) ∧ PurseAt w' b m (s.take k y).2 ∧ TkAt w' v' (r.take k y).1.T ∧ Mod (Own b m) w w' := by
  obtain ⟨a, cap, rfl, _⟩ := hT.form
  have hA := ((hP.alloc (.cells #[.int .u64 r.xk, .int .u64 r.xb, .int .u64 r.hk, .int .u64 r.hb, (.slice a r.T.length cap)] 39)).alloc (.cells #[.int .i64 what, .int .i64 t, .int .u64 k, .int .u64 y] 33)).alloc (.cells #[.int .u64 0, .int .u64 0, .int .u64 0, .int .u64 0, .slice none 0 0] 39)
  have hT3 := ((hT.alloc (.cells #[.int .u64 r.xk, .int .u64 r.xb, .int .u64 r.hk, .int .u64 r.hb, (.slice a r.T.length cap)] 39)).alloc (.cells #[.int .i64 what, .int .i64 t, .int .u64 k, .int .u64 y] 33)).alloc (.cells #[.int .u64 0, .int .u64 0, .int .u64 0, .int .u64 0, .slice none 0 0] 39)
  have h1 : (((w.alloc (.cells #[.int .u64 r.xk, .int .u64 r.xb, .int .u64 r.hk, .int .u64 r.hb, (.slice a r.T.length cap)] 39)).alloc (.cells #[.int .i64 what, .int .i64 t, .int .u64 k, .int .u64 y] 33)).alloc (.cells #[.int .u64 0, .int .u64 0, .int .u64 0, .int .u64 0, .slice none 0 0] 39)).heap[w.heap.size + 1]? = some (.cells #[.int .i64 what, .int .i64 t, .int .u64 k, .int .u64 y] 33) := blk_alloc (heap_at (.cells #[.int .i64 what, .int .i64 t, .int .u64 k, .int .u64 y] 33) (by simp))
  have h2 : (((w.alloc (.cells #[.int .u64 r.xk, .int .u64 r.xb, .int .u64 r.hk, .int .u64 r.hb, (.slice a r.T.length cap)] 39)).alloc (.cells #[.int .i64 what, .int .i64 t, .int .u64 k, .int .u64 y] 33)).alloc (.cells #[.int .u64 0, .int .u64 0, .int .u64 0, .int .u64 0, .slice none 0 0] 39)).heap[w.heap.size + 2]? = some (.cells #[.int .u64 0, .int .u64 0, .int .u64 0, .int .u64 0, .slice none 0 0] 39) := heap_at (.cells #[.int .u64 0, .int .u64 0, .int .u64 0, .int .u64 0, .slice none 0 0] 39) (by simp)
  have hM : Mod (Own b m) w (((w.alloc (.cells #[.int .u64 r.xk, .int .u64 r.xb, .int .u64 r.hk, .int .u64 r.hb, (.slice a r.T.length cap)] 39)).alloc (.cells #[.int .i64 what, .int .i64 t, .int .u64 k, .int .u64 y] 33)).alloc (.cells #[.int .u64 0, .int .u64 0, .int .u64 0, .int .u64 0, .slice none 0 0] 39)) := (((Mod.refl _ _).alloc _).alloc _).alloc _
  obtain ⟨g1, g2⟩ := hg.take k y
  obtain ⟨r', e', hre⟩ : ∃ r' e', r.take k y = (r', e') := ⟨_, _, rfl⟩
  obtain ⟨s', hse⟩ : ∃ s', s.take k y = (e', s') := ⟨(s.take k y).2, by rw [hre] at g2; exact Prod.ext g2 rfl⟩
  have HR := hid (rtake_at hT3 (hg.inv hi) (by have := hg.last; omega) hk hy hre)
  have HQ := hid (fun (w1 : World) (h : PurseAt w1 b m s) => take_at h hi k y hk hy)
  rw [hse] at HQ
  rw [hre, hse]
  have HI := hid (pick_any what 6 4 (((w.alloc (.cells #[.int .u64 r.xk, .int .u64 r.xb, .int .u64 r.hk, .int .u64 r.hb, (.slice a r.T.length cap)] 39)).alloc (.cells #[.int .i64 what, .int .i64 t, .int .u64 k, .int .u64 y] 33)).alloc (.cells #[.int .u64 0, .int .u64 0, .int .u64 0, .int .u64 0, .slice none 0 0] 39)) (by omega) (by omega) hp)
  have HA := hid hA
  have H1 := hid h1
  have H2 := hid h2
  have HM := hid hM
  have hlb := hP.lt.1
  have hlm := hP.lt.2
  clear g1 g2 hre hse hP hi hl hg hT hA hT3 h1 h2 hM hp
  go_enter Try.func15, Try.ntmps15
  go_wp2_with (go_at_call 24; refine HI.out.mono ?_; rintro e w' ⟨rfl, rfl⟩)
  refine HR.out.mono ?_
  rintro e w2 ⟨v1, rfl, hv1, hB⟩
  obtain ⟨a6, c6, rfl, _⟩ := hv1.form
  have hz := hB.size
  simp only [World.size_alloc] at hz
  have k1 := blk_below H1.out hB (lt_of_block H1.out)
  have d0 := cell_of k1 0
  have d1 := cell_of k1 1
  have d2 := cell_of k1 2
  have d3 := cell_of k1 3
  have HS : Hid (DS w b m w2.heap.size what t k y s r' (.slice a6 r'.T.length c6) #[.int .u64 0, .int .u64 0, .int .u64 0, .int .u64 0, .slice none 0 0] (w2.alloc (.cells #[.int .u64 r'.xk, .int .u64 r'.xb, .int .u64 r'.hk, .int .u64 r'.hb, (.slice a6 r'.T.length c6)] 39))) :=
    hid ⟨(HA.out.keep hB).alloc _, blk_alloc k1, heap_new _ _, blk_alloc (blk_below H2.out hB (lt_of_block H2.out)), hv1.alloc _, (HM.out.trans (S' := fun _ => False) (Mod.ofBelow hB) (fun _ _ h => h.elim)).alloc _, hlb, hlm, by omega⟩
  clear hv1 hB k1 HA H1 H2 HM
  go_wp2_with fail
  generalize w2.alloc (.cells #[.int .u64 r'.xk, .int .u64 r'.xb, .int .u64 r'.hk, .int .u64 r'.hb, (.slice a6 r'.T.length c6)] 39) = W at *
  clear d0 d1 d2 d3
  refine wp_region_seqI 11 (Turn2 6 9 (fun b1 b2 w1 => DS w b m w2.heap.size what t k y (cond b1 s' s) r' (.slice a6 r'.T.length c6) (cond b2 #[.int .u64 r'.xk, .int .u64 r'.xb, .int .u64 r'.hk, .int .u64 r'.hb, (.slice a6 r'.T.length c6)] #[.int .u64 0, .int .u64 0, .int .u64 0, .int .u64 0, .slice none 0 0]) w1)) (by kernel_rfl) (by kernel_rfl) (by kernel_rfl) (Turn2.start HS.out.drew) ?_
  dsimp only [List.take]
  iterate 6
    refine Seq2.calm (a' := ?_) (by decide) (by decide) ?_ ?_ ?_
    rotate_left
    ·
      intro b1 b2 w1 hw1
      have HW1 := hid hw1
      have hd := hw1.dbox
      have hn := hw1.nbox
      have d0 := cell_of hd 0
      have d1 := cell_of hd 1
      have d2 := cell_of hd 2
      have d3 := cell_of hd 3
      have n0 := cell_of hn 0
      have n1 := cell_of hn 1
      have n2 := cell_of hn 2
      have n3 := cell_of hn 3
      have n4 := cell_of hn 4
      clear hd hn
      clear hw1
      go_wp2_with (fail)
      refine ⟨?_, HW1.out⟩
      exact rfl
    · kernel_rfl
  refine Seq2.fst (a' := ?_) (by decide) ?_ ?_ ?_
  rotate_left
  ·
    intro b2 w1 hw1
    have H0 := hid hw1
    clear hw1
    go_wp2_with (go_at_call 22; refine (HQ.out _ H0.out.pu).mono ?_; rintro e w3 ⟨rfl, hP2, hM2⟩)
    refine ⟨?_, H0.out.turn hP2 hM2⟩
    exact rfl
  · kernel_rfl
  iterate 2
    refine Seq2.calm (a' := ?_) (by decide) (by decide) ?_ ?_ ?_
    rotate_left
    ·
      intro b1 b2 w1 hw1
      have HW1 := hid hw1
      have hd := hw1.dbox
      have hn := hw1.nbox
      have d0 := cell_of hd 0
      have d1 := cell_of hd 1
      have d2 := cell_of hd 2
      have d3 := cell_of hd 3
      have n0 := cell_of hn 0
      have n1 := cell_of hn 1
      have n2 := cell_of hn 2
      have n3 := cell_of hn 3
      have n4 := cell_of hn 4
      clear hd hn
      clear hw1
      go_wp2_with (fail)
      refine ⟨?_, HW1.out⟩
      exact rfl
    · kernel_rfl
  refine Seq2.snd (a' := ?_) (by decide) ?_ ?_ ?_
  rotate_left
  ·
    intro b1 w1 hw1
    have hr := hw1.rbox
    have m0 := cell_of hr 0
    have m1 := cell_of hr 1
    have m2 := cell_of hr 2
    have m3 := cell_of hr 3
    have m4 := cell_of hr 4
    have mf := free_of hr
    have hlt := lt_of_block hr
    have H0 := hid hw1
    clear hw1 hr
    go_wp2_with (fail)
    refine ⟨?_, ((((H0.out.set 0 _).set 1 _).set 2 _).set 3 _).set 4 _⟩
    exact rfl
  · kernel_rfl
  iterate 1
    refine Seq2.calm (a' := ?_) (by decide) (by decide) ?_ ?_ ?_
    rotate_left
    ·
      intro b1 b2 w1 hw1
      have HW1 := hid hw1
      have hd := hw1.dbox
      have hn := hw1.nbox
      have d0 := cell_of hd 0
      have d1 := cell_of hd 1
      have d2 := cell_of hd 2
      have d3 := cell_of hd 3
      have n0 := cell_of hn 0
      have n1 := cell_of hn 1
      have n2 := cell_of hn 2
      have n3 := cell_of hn 3
      have n4 := cell_of hn 4
      clear hd hn
      clear hw1
      go_wp2_with (fail)
      refine ⟨?_, HW1.out⟩
      exact rfl
    · kernel_rfl
  refine SeqI.nil ?_
  intro D w1 hD hI
  replace hI := hI.done (hD 6 (by omega)) (hD 9 (by omega))
  clear hD
  dsimp only [List.drop]
  have hr := hI.rbox
  have m0 := cell_of hr 0
  have m1 := cell_of hr 1
  have m2 := cell_of hr 2
  have m3 := cell_of hr 3
  have m4 := cell_of hr 4
  have H0 := hid hI
  clear hI hr
  go_wp2_with fail
  refine bodyPost_ret (v := .tuple #[.agg #[.int .u64 r'.xk, .int .u64 r'.xb, .int .u64 r'.hk, .int .u64 r'.hb, (.slice a6 r'.T.length c6)], .bool true]) (by simp [results, Try.results15, go_sem, m0, m1, m2, m3, m4]) rfl ⟨_, rfl, H0.out.pu, H0.out.tk, H0.out.mod⟩

set_option maxHeartbeats 2000000 in
theorem does_pay {w : World} {b m : Nat} {s : St} {r : RSt} {v : Value} (hP : PurseAt w b m s) (hi : Inv s) (hg : Goes s r) (hT : TkAt w v r.T) (what t k y : Int) (hp : what % 6 = 5) (hk : 0 ≤ k) (hy : 0 ≤ y) :
    Calls Try.prog 15 #[.pointer (some ⟨b, 0, none⟩), .agg #[.int .u64 r.xk, .int .u64 r.xb, .int .u64 r.hk, .int .u64 r.hb, v], .agg #[.int .i64 what, .int .i64 t, .int .u64 k, .int .u64 y]] w fun e w' => ∃ v', e = .returned (.tuple #[.agg #[.int .u64 (r.pay k y).1.xk, .int .u64 (r.pay k y).1.xb, .int .u64 (r.pay k y).1.hk, .int .u64 (r.pay k y).1.hb, v'], .bool true]) ∧ PurseAt w' b m (s.pay k y).2 ∧ TkAt w' v' (r.pay k y).1.T ∧ Mod (Own b m) w w' := by
  obtain ⟨a, cap, rfl, _⟩ := hT.form
  have hA := ((hP.alloc (.cells #[.int .u64 r.xk, .int .u64 r.xb, .int .u64 r.hk, .int .u64 r.hb, (.slice a r.T.length cap)] 39)).alloc (.cells #[.int .i64 what, .int .i64 t, .int .u64 k, .int .u64 y] 33)).alloc (.cells #[.int .u64 0, .int .u64 0, .int .u64 0, .int .u64 0, .slice none 0 0] 39)
  have hT3 := ((hT.alloc (.cells #[.int .u64 r.xk, .int .u64 r.xb, .int .u64 r.hk, .int .u64 r.hb, (.slice a r.T.length cap)] 39)).alloc (.cells #[.int .i64 what, .int .i64 t, .int .u64 k, .int .u64 y] 33)).alloc (.cells #[.int .u64 0, .int .u64 0, .int .u64 0, .int .u64 0, .slice none 0 0] 39)
  have h1 : (((w.alloc (.cells #[.int .u64 r.xk, .int .u64 r.xb, .int .u64 r.hk, .int .u64 r.hb, (.slice a r.T.length cap)] 39)).alloc (.cells #[.int .i64 what, .int .i64 t, .int .u64 k, .int .u64 y] 33)).alloc (.cells #[.int .u64 0, .int .u64 0, .int .u64 0, .int .u64 0, .slice none 0 0] 39)).heap[w.heap.size + 1]? = some (.cells #[.int .i64 what, .int .i64 t, .int .u64 k, .int .u64 y] 33) := blk_alloc (heap_at (.cells #[.int .i64 what, .int .i64 t, .int .u64 k, .int .u64 y] 33) (by simp))
  have h2 : (((w.alloc (.cells #[.int .u64 r.xk, .int .u64 r.xb, .int .u64 r.hk, .int .u64 r.hb, (.slice a r.T.length cap)] 39)).alloc (.cells #[.int .i64 what, .int .i64 t, .int .u64 k, .int .u64 y] 33)).alloc (.cells #[.int .u64 0, .int .u64 0, .int .u64 0, .int .u64 0, .slice none 0 0] 39)).heap[w.heap.size + 2]? = some (.cells #[.int .u64 0, .int .u64 0, .int .u64 0, .int .u64 0, .slice none 0 0] 39) := heap_at (.cells #[.int .u64 0, .int .u64 0, .int .u64 0, .int .u64 0, .slice none 0 0] 39) (by simp)
  have hM : Mod (Own b m) w (((w.alloc (.cells #[.int .u64 r.xk, .int .u64 r.xb, .int .u64 r.hk, .int .u64 r.hb, (.slice a r.T.length cap)] 39)).alloc (.cells #[.int .i64 what, .int .i64 t, .int .u64 k, .int .u64 y] 33)).alloc (.cells #[.int .u64 0, .int .u64 0, .int .u64 0, .int .u64 0, .slice none 0 0] 39)) := (((Mod.refl _ _).alloc _).alloc _).alloc _
  obtain ⟨g1, g2⟩ := hg.pay k y
  obtain ⟨r', e', hre⟩ : ∃ r' e', r.pay k y = (r', e') := ⟨_, _, rfl⟩
  obtain ⟨s', hse⟩ : ∃ s', s.pay k y = (e', s') := ⟨(s.pay k y).2, by rw [hre] at g2; exact Prod.ext g2 rfl⟩
  have HR := hid (rpay_at hT3 (hg.inv hi) hk hy hre)
  have HQ := hid (fun (w1 : World) (h : PurseAt w1 b m s) => pay_at h hi k y hk hy)
  rw [hse] at HQ
  rw [hre, hse]
  have HI := hid (pick_any what 6 5 (((w.alloc (.cells #[.int .u64 r.xk, .int .u64 r.xb, .int .u64 r.hk, .int .u64 r.hb, (.slice a r.T.length cap)] 39)).alloc (.cells #[.int .i64 what, .int .i64 t, .int .u64 k, .int .u64 y] 33)).alloc (.cells #[.int .u64 0, .int .u64 0, .int .u64 0, .int .u64 0, .slice none 0 0] 39)) (by omega) (by omega) hp)
  have HA := hid hA
  have H1 := hid h1
  have H2 := hid h2
  have HM := hid hM
  have hlb := hP.lt.1
  have hlm := hP.lt.2
  clear g1 g2 hre hse hP hi hg hT hA hT3 h1 h2 hM hp
  go_enter Try.func15, Try.ntmps15
  go_wp2_with (go_at_call 24; refine HI.out.mono ?_; rintro e w' ⟨rfl, rfl⟩)
  refine HR.out.mono ?_
  rintro e w2 ⟨v1, rfl, hv1, hB⟩
  obtain ⟨a6, c6, rfl, _⟩ := hv1.form
  have hz := hB.size
  simp only [World.size_alloc] at hz
  have k1 := blk_below H1.out hB (lt_of_block H1.out)
  have d0 := cell_of k1 0
  have d1 := cell_of k1 1
  have d2 := cell_of k1 2
  have d3 := cell_of k1 3
  have HS : Hid (DS w b m w2.heap.size what t k y s r' (.slice a6 r'.T.length c6) #[.int .u64 0, .int .u64 0, .int .u64 0, .int .u64 0, .slice none 0 0] (w2.alloc (.cells #[.int .u64 r'.xk, .int .u64 r'.xb, .int .u64 r'.hk, .int .u64 r'.hb, (.slice a6 r'.T.length c6)] 39))) :=
    hid ⟨(HA.out.keep hB).alloc _, blk_alloc k1, heap_new _ _, blk_alloc (blk_below H2.out hB (lt_of_block H2.out)), hv1.alloc _, (HM.out.trans (S' := fun _ => False) (Mod.ofBelow hB) (fun _ _ h => h.elim)).alloc _, hlb, hlm, by omega⟩
  clear hv1 hB k1 HA H1 H2 HM
  go_wp2_with fail
  generalize w2.alloc (.cells #[.int .u64 r'.xk, .int .u64 r'.xb, .int .u64 r'.hk, .int .u64 r'.hb, (.slice a6 r'.T.length c6)] 39) = W at *
  clear d0 d1 d2 d3
  refine wp_region_seqI 11 (Turn2 6 9 (fun b1 b2 w1 => DS w b m w2.heap.size what t k y (cond b1 s' s) r' (.slice a6 r'.T.length c6) (cond b2 #[.int .u64 r'.xk, .int .u64 r'.xb, .int .u64 r'.hk, .int .u64 r'.hb, (.slice a6 r'.T.length c6)] #[.int .u64 0, .int .u64 0, .int .u64 0, .int .u64 0, .slice none 0 0]) w1)) (by kernel_rfl) (by kernel_rfl) (by kernel_rfl) (Turn2.start HS.out.drew) ?_
  dsimp only [List.take]
  iterate 6
    refine Seq2.calm (a' := ?_) (by decide) (by decide) ?_ ?_ ?_
    rotate_left
    ·
      intro b1 b2 w1 hw1
      have HW1 := hid hw1
      have hd := hw1.dbox
      have hn := hw1.nbox
      have d0 := cell_of hd 0
      have d1 := cell_of hd 1
      have d2 := cell_of hd 2
      have d3 := cell_of hd 3
      have n0 := cell_of hn 0
      have n1 := cell_of hn 1
      have n2 := cell_of hn 2
      have n3 := cell_of hn 3
      have n4 := cell_of hn 4
      clear hd hn
      clear hw1
      go_wp2_with (fail)
      refine ⟨?_, HW1.out⟩
      exact rfl
    · kernel_rfl
  refine Seq2.fst (a' := ?_) (by decide) ?_ ?_ ?_
  rotate_left
  ·
    intro b2 w1 hw1
    have H0 := hid hw1
    clear hw1
    go_wp2_with (go_at_call 23; refine (HQ.out _ H0.out.pu).mono ?_; rintro e w3 ⟨rfl, hP2, hM2⟩)
    refine ⟨?_, H0.out.turn hP2 hM2⟩
    exact rfl
  · kernel_rfl
  iterate 2
    refine Seq2.calm (a' := ?_) (by decide) (by decide) ?_ ?_ ?_
    rotate_left
    ·
      intro b1 b2 w1 hw1
      have HW1 := hid hw1
      have hd := hw1.dbox
      have hn := hw1.nbox
      have d0 := cell_of hd 0
      have d1 := cell_of hd 1
      have d2 := cell_of hd 2
      have d3 := cell_of hd 3
      have n0 := cell_of hn 0
      have n1 := cell_of hn 1
      have n2 := cell_of hn 2
      have n3 := cell_of hn 3
      have n4 := cell_of hn 4
      clear hd hn
      clear hw1
      go_wp2_with (fail)
      refine ⟨?_, HW1.out⟩
      exact rfl
    · kernel_rfl
  refine Seq2.snd (a' := ?_) (by decide) ?_ ?_ ?_
  rotate_left
  ·
    intro b1 w1 hw1
    have hr := hw1.rbox
    have m0 := cell_of hr 0
    have m1 := cell_of hr 1
    have m2 := cell_of hr 2
    have m3 := cell_of hr 3
    have m4 := cell_of hr 4
    have mf := free_of hr
    have hlt := lt_of_block hr
    have H0 := hid hw1
    clear hw1 hr
    go_wp2_with (fail)
    refine ⟨?_, ((((H0.out.set 0 _).set 1 _).set 2 _).set 3 _).set 4 _⟩
    exact rfl
  · kernel_rfl
  iterate 1
    refine Seq2.calm (a' := ?_) (by decide) (by decide) ?_ ?_ ?_
    rotate_left
    ·
      intro b1 b2 w1 hw1
      have HW1 := hid hw1
      have hd := hw1.dbox
      have hn := hw1.nbox
      have d0 := cell_of hd 0
      have d1 := cell_of hd 1
      have d2 := cell_of hd 2
      have d3 := cell_of hd 3
      have n0 := cell_of hn 0
      have n1 := cell_of hn 1
      have n2 := cell_of hn 2
      have n3 := cell_of hn 3
      have n4 := cell_of hn 4
      clear hd hn
      clear hw1
      go_wp2_with (fail)
      refine ⟨?_, HW1.out⟩
      exact rfl
    · kernel_rfl
  refine SeqI.nil ?_
  intro D w1 hD hI
  replace hI := hI.done (hD 6 (by omega)) (hD 9 (by omega))
  clear hD
  dsimp only [List.drop]
  have hr := hI.rbox
  have m0 := cell_of hr 0
  have m1 := cell_of hr 1
  have m2 := cell_of hr 2
  have m3 := cell_of hr 3
  have m4 := cell_of hr 4
  have H0 := hid hI
  clear hI hr
  go_wp2_with fail
  refine bodyPost_ret (v := .tuple #[.agg #[.int .u64 r'.xk, .int .u64 r'.xb, .int .u64 r'.hk, .int .u64 r'.hb, (.slice a6 r'.T.length c6)], .bool true]) (by simp [results, Try.results15, go_sem, m0, m1, m2, m3, m4]) rfl ⟨_, rfl, H0.out.pu, H0.out.tk, H0.out.mod⟩

end Go.Proofs.Ytkdimkaladbnpaa
