/- The reference's Refund and Commit. -/
import Derived.Test.YtkdimkaladbnpaaRef3
namespace Go.Proofs.Ytkdimkaladbnpaa
open Go.ChangeShapes Go.WideShapes Go.ChangeAt Go.RowKit Go.Burg
open Go.Burg.Purse
variable {r : RSt} {v : Value}

theorem tkOf_shut : ∀ {T : List Tk} {i : Nat} {t : Tk}, T[i]? = some t → (tkOf T).set (i * 3 + 2) (.bool false) = tkOf (T.set i ⟨t.k, t.y, false⟩) := by
  intro T
  induction T with
  | nil => intro i t h; simp at h
  | cons a T ih =>
    intro i t h
    cases i with
    | zero => simp at h; subst h; simp [tkOf]
    | succ i =>
      simp at h
      have := ih h
      simp only [tkOf, List.flatMap_cons, List.set_cons_succ] at this ⊢
      rw [List.set_append_right _ _ (by simp; omega)]
      simp only [List.length_cons, List.length_nil]
      rw [show (i + 1) * 3 + 2 - (0 + 1 + 1 + 1) = i * 3 + 2 by omega, this]
theorem TkAt.of {w : World} {base : Nat} {v : Value} {T : List Tk} (h : w.ownsRow base 73 3 v T.length (tkOf T)) : TkAt w v T := own_less h (Nat.zero_le _)
theorem with_keep {w w' : World} {v : Value} {T : List Tk} {p : Prop} (h : TkAt w v T) (hp : p) (hb : Below w.heap.size w w') : p ∧ TkAt w' v T ∧ Below w.heap.size w w' := ⟨hp, h.keep hb, hb⟩
theorem row_two {w : World} {base n : Nat} {v : Value} {xs : List Value} (h : w.ownsRow base 73 3 v n xs) : ∃ a cap, v = .slice a n cap ∧ (0 < n → ∃ g, a = some ⟨g, 0, none⟩ ∧ base ≤ g ∧ n ≤ cap ∧ cap ≤ maxLen) := by
  rcases h.2 with ⟨rfl, h0⟩ | ⟨g, cap, cur, rfl, hb, hg, h1, h2, _⟩
  · exact ⟨none, 0, by rw [h0], fun h => by omega⟩
  · exact ⟨_, cap, rfl, fun _ => ⟨g, rfl, hb, h1, h2⟩⟩

set_option maxHeartbeats 1000000 in
theorem rrefund_any (w : World) (t : Int) (h : TkAt w v r.T) (hn : r.T.length ≤ 1000) :
    Calls Try.prog 32 #[.agg #[.int .u64 r.xk, .int .u64 r.xb, .int .u64 r.hk, .int .u64 r.hb, v], .int .i64 t] w fun e w' => ∃ v',
      e = .returned (.tuple #[.agg #[.int .u64 (r.ref t).1.xk, .int .u64 (r.ref t).1.xb, .int .u64 (r.ref t).1.hk, .int .u64 (r.ref t).1.hb, v'], .int .i64 (r.ref t).2]) ∧ TkAt w' v' (r.ref t).1.T ∧ Below w.heap.size w w' := by
  have HH := hid h
  obtain ⟨a, cap, rfl, hform⟩ := h.form
  have HT := hid ((h.alloc (.cells #[.int .u64 r.xk, .int .u64 r.xb, .int .u64 r.hk, .int .u64 r.hb, .slice a r.T.length cap] 39)).alloc (.cells #[.int .u64 0, .int .u64 0, .int .u64 0, .int .u64 0, .slice none 0 0] 39))
  have H0 := hid (blk_alloc (o' := (.cells #[.int .u64 0, .int .u64 0, .int .u64 0, .int .u64 0, .slice none 0 0] 39)) (heap_new w (.cells #[.int .u64 r.xk, .int .u64 r.xb, .int .u64 r.hk, .int .u64 r.hb, .slice a r.T.length cap] 39)))
  have h1 : ((w.alloc (.cells #[.int .u64 r.xk, .int .u64 r.xb, .int .u64 r.hk, .int .u64 r.hb, .slice a r.T.length cap] 39)).alloc (.cells #[.int .u64 0, .int .u64 0, .int .u64 0, .int .u64 0, .slice none 0 0] 39)).heap[w.heap.size + 1]? = _ := heap_at (.cells #[.int .u64 0, .int .u64 0, .int .u64 0, .int .u64 0, .slice none 0 0] 39) (by simp)
  have H1 := hid h1
  have HW : Hid (Below w.heap.size w ((w.alloc (.cells #[.int .u64 r.xk, .int .u64 r.xb, .int .u64 r.hk, .int .u64 r.hb, .slice a r.T.length cap] 39)).alloc (.cells #[.int .u64 0, .int .u64 0, .int .u64 0, .int .u64 0, .slice none 0 0] 39))) := hid (((Below.refl _ _).alloc (Nat.le_refl _) _).alloc (by simp) _)
  have HF := hid hform
  clear h1 hform
  cases ho : r.isOpen t
  · have e1 : r.ref t = (r, 5) := by simp [RSt.ref, ho]
    rw [e1]
    have HI := hid (ropen_any _ t HT.out hn false ho)
    clear ho e1 h
    go_enter Try.func32, Try.ntmps32
    go_wp2_with fail
    refine HI.out.mono ?_
    rintro e w2 ⟨rfl, hB⟩
    have hB1 := HW.out.trans (hB.mono (by simp; omega))
    have k0 := blk_below H0.out hB (by simp; omega)
    have k1 := blk_below H1.out hB (by simp)
    have a0 := cell_of k0 0
    have a1 := cell_of k0 1
    have a2 := cell_of k0 2
    have a3 := cell_of k0 3
    have a4 := cell_of k0 4
    have af := free_of k0
    have m0 := cell_of k1 0
    have m1 := cell_of k1 1
    have m2 := cell_of k1 2
    have m3 := cell_of k1 3
    have m4 := cell_of k1 4
    have mf := free_of k1
    have hsz := lt_of_block k1
    have hs0 := lt_of_block k0
    have K0 := hid k0
    have K1 := hid k1
    clear k0 k1
    have HT2 := hid (HT.out.keep hB)
    clear hB
    go_wp2_with fail
    refine bodyPost_ret (v := .tuple #[.agg #[.int .u64 r.xk, .int .u64 r.xb, .int .u64 r.hk, .int .u64 r.hb, (.slice a r.T.length cap)], .int .i64 5]) (by simp [results, Try.results32, go_sem, m0, m1, m2, m3, m4]) rfl ⟨_, with_keep HH.out rfl (by (repeat (first | with_reducible exact hB1 | with_reducible refine Below.setCell ?_ (by first | (simp; done) | (simp; omega)) _ | with_reducible refine Below.alloc ?_ (by first | (simp; done) | (simp; omega)) _ | with_reducible refine Below.drew ?_)))⟩
  · obtain ⟨i, x, rfl, hx, hop⟩ := isOpen_iff.1 ho
    have e0 : ((i : Int) + 1 - 1).toNat = i := by omega
    have ec : close r.T i = r.T.set i ⟨x.k, x.y, false⟩ := by simp [close, hx]
    have e1 : r.ref ((i : Int) + 1) = ({ r with T := r.T.set i ⟨x.k, x.y, false⟩ }, 0) := by simp only [RSt.ref, ho, if_true, e0, ec]
    rw [e1]
    have HI := hid (ropen_any _ _ HT.out hn true ho)
    have hil := (List.getElem?_eq_some_iff.1 hx).1
    have hw1 : IntKind.i64.wrap ((i : Int) + 1 - 1) = (i : Int) := by rw [show (i : Int) + 1 - 1 = (i : Int) by omega]; exact IntWalk.i64_in _ (by omega)
    have HX := hid hx
    clear ho e1 h e0 ec hx
    go_enter Try.func32, Try.ntmps32
    go_wp2_with fail
    refine HI.out.mono ?_
    rintro e w2 ⟨rfl, hB⟩
    have H02 := hid (blk_below H0.out hB (by simp; omega))
    have H12 := hid (blk_below H1.out hB (by simp))
    have HT2 := hid (HT.out.keep hB)
    have HW2 := hid (HW.out.trans (hB.mono HW.out.size))
    have a0 := cell_of H02.out 0
    have a1 := cell_of H02.out 1
    have a2 := cell_of H02.out 2
    have a3 := cell_of H02.out 3
    have a4 := cell_of H02.out 4
    clear hB
    go_wp2_with fail
    refine (rown_any r.xk r.xb r.hk r.hb r.T _ HT2.out hn).mono ?_
    rintro e w3 ⟨v1, rfl, hO, hB⟩
    have hB1 := HW2.out.trans (hB.mono HW2.out.size)
    have k0 := blk_below H02.out hB (lt_of_block H02.out)
    have k1 := blk_below H12.out hB (lt_of_block H12.out)
    obtain ⟨a5, c5, rfl, hf5⟩ := row_two hO
    obtain ⟨g5, rfl, hg5, hc5, hc6⟩ := hf5 (by omega)
    have hw2 := HW2.out.size
    have hsz := lt_of_block H12.out
    have hne0 : ¬ w.heap.size = g5 := by omega
    have hne1 : ¬ w.heap.size + 1 = g5 := by omega
    have o2 := hO.cellAt (i * 3 + 2) (by omega)
    rw [(tkOf_at HX.out).2.2] at o2
    have of := hO.frozenAt (g := g5)
    clear a0 a1 a2 a3 a4
    have a0 := cell_of k0 0
    have a1 := cell_of k0 1
    have a2 := cell_of k0 2
    have a3 := cell_of k0 3
    have a4 := cell_of k0 4
    have af := free_of k0
    have m0 := cell_of k1 0
    have m1 := cell_of k1 1
    have m2 := cell_of k1 2
    have m3 := cell_of k1 3
    have m4 := cell_of k1 4
    have mf := free_of k1
    have HO := hid hO
    unfold maxLen at hc6
    clear k0 k1 hO hB hf5
    go_wp2_with fail
    have hfin : ∀ (W : World), W.ownsRow (w2.heap.size + 2) 73 3 (.slice (some ⟨g5, 0, none⟩) r.T.length c5) r.T.length (tkOf r.T) → (W.setCell ⟨g5, i * 3 + 2, none⟩ (.bool false)).ownsRow (w2.heap.size + 2) 73 3 (.slice (some ⟨g5, 0, none⟩) r.T.length c5) r.T.length (tkOf (r.T.set i ⟨x.k, x.y, false⟩)) := fun W h => by
      rw [← tkOf_shut HX.out]
      exact (h.stored _ _).1
    refine bodyPost_ret (v := .tuple #[.agg #[.int .u64 r.xk, .int .u64 r.xb, .int .u64 r.hk, .int .u64 r.hb, (.slice (some ⟨g5, 0, none⟩) r.T.length c5)], .int .i64 0]) (by simp [results, Try.results32, go_sem, m0, m1, m2, m3, m4]) rfl ⟨_, rfl, ?_, by (repeat (first | with_reducible exact hB1 | with_reducible refine Below.setCell ?_ (by first | (simp; done) | (simp; omega)) _ | with_reducible refine Below.alloc ?_ (by first | (simp; done) | (simp; omega)) _ | with_reducible refine Below.drew ?_))⟩
    refine TkAt.of (base := w2.heap.size + 2) ?_
    rw [List.length_set]
    repeat (refine own_set ?_ (fun g hg => by simp [Value.ownBlock] at hg; simp; omega) _)
    refine hfin _ ?_
    repeat (refine own_set ?_ (fun g hg => by simp [Value.ownBlock] at hg; simp; omega) _)
    exact HO.out

theorem own_drew {w : World} {base size n : Nat} {e : TypeId} {v : Value} {xs : List Value} (h : w.ownsRow base e size v n xs) : w.drew.ownsRow base e size v n xs := h
theorem own_ty {w : World} {base size n b : Nat} {e t : TypeId} {v : Value} {xs : List Value} {cs : Array Value} {fz : Nat × Nat} (h : w.ownsRow base e size v n xs) (hb : w.heap[b]? = some (.cells cs t fz)) (hne : e ≠ t) : ∀ g, v.ownBlock = some g → g ≠ b := by
  intro g hg
  rcases h.2 with ⟨rfl, _⟩ | ⟨g', cap, cur, rfl, _, hh, _⟩
  · simp [Value.ownBlock] at hg
  · simp [Value.ownBlock] at hg
    subst hg
    rintro rfl
    rw [hh] at hb
    simp at hb
    exact hne hb.2.1

set_option maxHeartbeats 1000000 in
theorem rcommit_any (w : World) (t : Int) (h : TkAt w v r.T) (hi : RInv r) (hn : r.T.length ≤ 1000) :
    Calls Try.prog 31 #[.agg #[.int .u64 r.xk, .int .u64 r.xb, .int .u64 r.hk, .int .u64 r.hb, v], .int .i64 t] w fun e w' => ∃ v',
      e = .returned (.tuple #[.agg #[.int .u64 (r.com t).1.xk, .int .u64 (r.com t).1.xb, .int .u64 (r.com t).1.hk, .int .u64 (r.com t).1.hb, v'], .int .i64 (r.com t).2]) ∧ TkAt w' v' (r.com t).1.T ∧ Below w.heap.size w w' := by
  have HH := hid h
  obtain ⟨a, cap, rfl, hform⟩ := h.form
  have HT := hid ((h.alloc (.cells #[.int .u64 r.xk, .int .u64 r.xb, .int .u64 r.hk, .int .u64 r.hb, .slice a r.T.length cap] 39)).alloc (.cells #[.int .u64 0, .int .u64 0, .int .u64 0, .int .u64 0, .slice none 0 0] 39))
  have H0 := hid (blk_alloc (o' := (.cells #[.int .u64 0, .int .u64 0, .int .u64 0, .int .u64 0, .slice none 0 0] 39)) (heap_new w (.cells #[.int .u64 r.xk, .int .u64 r.xb, .int .u64 r.hk, .int .u64 r.hb, .slice a r.T.length cap] 39)))
  have h1 : ((w.alloc (.cells #[.int .u64 r.xk, .int .u64 r.xb, .int .u64 r.hk, .int .u64 r.hb, .slice a r.T.length cap] 39)).alloc (.cells #[.int .u64 0, .int .u64 0, .int .u64 0, .int .u64 0, .slice none 0 0] 39)).heap[w.heap.size + 1]? = _ := heap_at (.cells #[.int .u64 0, .int .u64 0, .int .u64 0, .int .u64 0, .slice none 0 0] 39) (by simp)
  have H1 := hid h1
  have HW : Hid (Below w.heap.size w ((w.alloc (.cells #[.int .u64 r.xk, .int .u64 r.xb, .int .u64 r.hk, .int .u64 r.hb, .slice a r.T.length cap] 39)).alloc (.cells #[.int .u64 0, .int .u64 0, .int .u64 0, .int .u64 0, .slice none 0 0] 39))) := hid (((Below.refl _ _).alloc (Nat.le_refl _) _).alloc (by simp) _)
  have HF := hid hform
  clear h1 hform
  have HR := hid (rrefund_any _ t HT.out hn)
  cases ho : r.isOpen t
  · have e1 : r.com t = (r, 5) := by simp [RSt.com, ho]
    have e2 : r.ref t = (r, 5) := by simp [RSt.ref, ho]
    rw [e2] at HR
    rw [e1]
    clear ho e1 e2 h hi
    go_enter Try.func31, Try.ntmps31
    go_wp2_with fail
    refine HR.out.mono ?_
    rintro e w2 ⟨v1, rfl, hv1, hB⟩
    obtain ⟨a6, c6, rfl, _⟩ := hv1.form
    have hB1 := HW.out.trans (hB.mono (by simp; omega))
    have k0 := blk_below H0.out hB (by simp; omega)
    have k1 := blk_below H1.out hB (by simp)
    have a0 := cell_of k0 0
    have a1 := cell_of k0 1
    have a2 := cell_of k0 2
    have a3 := cell_of k0 3
    have a4 := cell_of k0 4
    have af := free_of k0
    have m0 := cell_of k1 0
    have m1 := cell_of k1 1
    have m2 := cell_of k1 2
    have m3 := cell_of k1 3
    have m4 := cell_of k1 4
    have mf := free_of k1
    have hsz := lt_of_block k1
    have hs0 := lt_of_block k0
    have K0 := hid k0
    have K1 := hid k1
    clear k0 k1
    clear hB
    have HV := hid hv1
    clear hv1
    go_wp2_with fail
    have hne1 : ∀ g, (Value.slice a6 r.T.length c6).ownBlock = some g → g ≠ w.heap.size + 1 := own_ty HV.out K1.out (by decide)
    have hne2 := hne1
    refine bodyPost_ret (v := .tuple #[.agg #[.int .u64 r.xk, .int .u64 r.xb, .int .u64 r.hk, .int .u64 r.hb, (.slice a6 r.T.length c6)], .int .i64 5]) (by simp [results, Try.results31, go_sem, m0, m1, m2, m3, m4, hsz]) rfl ⟨_, rfl, ?_, by (repeat (first | with_reducible exact hB1 | with_reducible refine Below.setCell ?_ (by first | (simp; done) | (simp; omega)) _ | with_reducible refine Below.alloc ?_ (by first | (simp; done) | (simp; omega)) _ | with_reducible refine Below.drew ?_))⟩
    unfold TkAt
    repeat (first | with_reducible refine own_drew ?_ | with_reducible refine own_set ?_ (fun g hg => by have e1 := hne1 g hg; have e2 := hne2 g hg; simp; omega) _ | with_reducible refine World.ownsRow.alloc ?_ _)
    exact HV.out
  · obtain ⟨i, x, rfl, hx, hop⟩ := isOpen_iff.1 ho
    have e0 : ((i : Int) + 1 - 1).toNat = i := by omega
    have ec : close r.T i = r.T.set i ⟨x.k, x.y, false⟩ := by simp [close, hx]
    have ex : r.T.getD i default = x := by rw [List.getD_eq_getElem?_getD, hx]; rfl
    have e1 : r.com ((i : Int) + 1) = ({ r with T := r.T.set i ⟨x.k, x.y, false⟩, hk := r.hk + x.k, hb := r.hb + x.y }, 0) := by simp only [RSt.com, ho, if_true, e0, ec, ex]
    have e2 : r.ref ((i : Int) + 1) = ({ r with T := r.T.set i ⟨x.k, x.y, false⟩ }, 0) := by simp only [RSt.ref, ho, if_true, e0, ec]
    rw [e2] at HR
    rw [e1]
    have hil := (List.getElem?_eq_some_iff.1 hx).1
    have hw1 : IntKind.i64.wrap ((i : Int) + 1 - 1) = (i : Int) := by rw [show (i : Int) + 1 - 1 = (i : Int) by omega]; exact IntWalk.i64_in _ (by omega)
    have hpx := hi.pos x (List.mem_of_getElem? hx)
    have hks := sum_close hx hop
    have hkp : 0 ≤ okK (r.T.set i ⟨x.k, x.y, false⟩) := okK_pos fun t ht => by
      rcases List.mem_or_eq_of_mem_set ht with ht | rfl
      · exact hi.pos t ht
      · exact hpx
    have hbp : 0 ≤ okB (r.T.set i ⟨x.k, x.y, false⟩) := okB_pos fun t ht => by
      rcases List.mem_or_eq_of_mem_set ht with ht | rfl
      · exact hi.pos t ht
      · exact hpx
    have := hi.hk; have := hi.hb; have := hi.fk; have := hi.fb; have := hi.xk; have := hi.xb
    have u1 : IntKind.u64.wrap (r.hk + x.k) = r.hk + x.k := wrap_in (by omega) (by omega)
    have u2 : IntKind.u64.wrap (r.hb + x.y) = r.hb + x.y := wrap_in (by omega) (by omega)
    have U1 := hid u1
    have U2 := hid u2
    have HX := hid hx
    obtain ⟨g, rfl, hg, hc1, hc2⟩ := HF.out (by omega)
    unfold maxLen at hc2
    clear ho e1 e2 h hi e0 ec ex hx hks hkp hbp u1 u2 hpx
    obtain ⟨xk', xy, xo⟩ := x
    simp only at U1 U2 HR hop ⊢
    subst hop
    go_enter Try.func31, Try.ntmps31
    go_wp2_with fail
    refine HR.out.mono ?_
    rintro e w2 ⟨v1, rfl, hv1, hB⟩
    obtain ⟨a6, c6, rfl, _⟩ := hv1.form
    rw [List.length_set] at *
    have hB1 := HW.out.trans (hB.mono HW.out.size)
    have k0 := blk_alloc (o' := (.cells #[.int .u64 r.xk, .int .u64 r.xb, .int .u64 r.hk, .int .u64 r.hb, .slice a6 r.T.length c6] 39)) (blk_below H0.out hB (by simp; omega))
    have k1 := blk_alloc (o' := (.cells #[.int .u64 r.xk, .int .u64 r.xb, .int .u64 r.hk, .int .u64 r.hb, .slice a6 r.T.length c6] 39)) (blk_below H1.out hB (by simp))
    have k2 := heap_new w2 (.cells #[.int .u64 r.xk, .int .u64 r.xb, .int .u64 r.hk, .int .u64 r.hb, .slice a6 r.T.length c6] 39)
    have hB1 := hB1.alloc (hB1.size) (.cells #[.int .u64 r.xk, .int .u64 r.xb, .int .u64 r.hk, .int .u64 r.hb, .slice a6 r.T.length c6] 39)
    have hT2 := (HT.out.keep hB).alloc (.cells #[.int .u64 r.xk, .int .u64 r.xb, .int .u64 r.hk, .int .u64 r.hb, .slice a6 r.T.length c6] 39)
    have hV2 := hv1.alloc (.cells #[.int .u64 r.xk, .int .u64 r.xb, .int .u64 r.hk, .int .u64 r.hb, .slice a6 r.T.length c6] 39)
    have hz : w.heap.size + 1 < w2.heap.size := by have := hB.size; simp at this; omega
    clear hB hv1
    go_wp2_with fail
    generalize hWW : w2.alloc (.cells #[.int .u64 r.xk, .int .u64 r.xb, .int .u64 r.hk, .int .u64 r.hb, .slice a6 r.T.length c6] 39) = W at *
    clear hWW
    generalize w2.heap.size = qb at *
    have hw0 : IntKind.i64.wrap (i : Int) = (i : Int) := IntWalk.i64_in _ (by omega)
    have c4 := cell_of k0 4
    have q2 := cell_of k2 2
    have qf := free_of k2
    obtain ⟨t0, t1, _⟩ := hT2.cells HX.out
    simp only at t0 t1
    have u1 := U1.out
    have u2 := U2.out
    have hzW := lt_of_block k2
    have K0 := hid k0
    have K1 := hid k1
    have K2 := hid k2
    have HT2 := hid hT2
    have HV2 := hid hV2
    have HB1 := hid hB1
    clear k0 k1 k2 hT2 hV2 hB1
    go_still_tail 14, (by kernel_rfl)
    go_wp2_with fail
    have k0 : (W.setCell ⟨qb, 2, none⟩ (.int .u64 (r.hk + xk'))).drew.heap[w.heap.size]? = _ := (Below.heap_setCell _ _ _ _ (by simp; omega)).trans K0.out
    have k1 : (W.setCell ⟨qb, 2, none⟩ (.int .u64 (r.hk + xk'))).drew.heap[w.heap.size + 1]? = _ := (Below.heap_setCell _ _ _ _ (by simp; omega)).trans K1.out
    have k2 : (W.setCell ⟨qb, 2, none⟩ (.int .u64 (r.hk + xk'))).drew.heap[qb]? = some (.cells #[.int .u64 r.xk, .int .u64 r.xb, .int .u64 (r.hk + xk'), .int .u64 r.hb, .slice a6 r.T.length c6] 39) := (heap_set K2.out).trans (by simp)
    have hT2 : TkAt (W.setCell ⟨qb, 2, none⟩ (.int .u64 (r.hk + xk'))).drew _ _ := own_set HT2.out (p := ⟨qb, 2, none⟩) (own_ty HT2.out K2.out (by decide)) (.int .u64 (r.hk + xk'))
    have hV2 : TkAt (W.setCell ⟨qb, 2, none⟩ (.int .u64 (r.hk + xk'))).drew _ (r.T.set i ⟨xk', xy, false⟩) := own_set HV2.out (p := ⟨qb, 2, none⟩) (own_ty HV2.out K2.out (by decide)) (.int .u64 (r.hk + xk'))
    have hB1 : Below w.heap.size w (W.setCell ⟨qb, 2, none⟩ (.int .u64 (r.hk + xk'))).drew := (HB1.out.setCell (by simp; omega) _).drew
    clear c4 q2 qf t0 t1 hzW K0 K1 K2 HT2 HV2 HB1
    generalize (W.setCell ⟨qb, 2, none⟩ (.int .u64 (r.hk + xk'))).drew = W1 at *
    have c4 := cell_of k0 4
    have q0 := cell_of k2 0
    have q1 := cell_of k2 1
    have q2 := cell_of k2 2
    have q3 := cell_of k2 3
    have q4 := cell_of k2 4
    have qf := free_of k2
    have m0 := cell_of k1 0
    have m1 := cell_of k1 1
    have m2 := cell_of k1 2
    have m3 := cell_of k1 3
    have m4 := cell_of k1 4
    have mf := free_of k1
    obtain ⟨t0, t1, _⟩ := hT2.cells HX.out
    simp only at t0 t1
    have hzW := lt_of_block k2
    have K1 := hid k1
    have K2 := hid k2
    have HV2 := hid hV2
    clear k0 k1 k2 hT2 hV2
    go_still_tail 14, (by kernel_rfl)
    go_wp2_with fail
    have hne1 : ∀ g, (Value.slice a6 r.T.length c6).ownBlock = some g → g ≠ w.heap.size + 1 := own_ty HV2.out K1.out (by decide)
    have hne2 : ∀ g, (Value.slice a6 r.T.length c6).ownBlock = some g → g ≠ qb := own_ty HV2.out K2.out (by decide)
    refine bodyPost_ret (v := .tuple #[.agg #[.int .u64 r.xk, .int .u64 r.xb, .int .u64 (r.hk + xk'), .int .u64 (r.hb + xy), (.slice a6 r.T.length c6)], .int .i64 0]) (by simp [results, Try.results31, go_sem, m0, m1, m2, m3, m4]) rfl ⟨_, rfl, ?_, by (repeat (first | with_reducible exact hB1 | with_reducible refine Below.setCell ?_ (by first | (simp; done) | (simp; omega)) _ | with_reducible refine Below.alloc ?_ (by first | (simp; done) | (simp; omega)) _ | with_reducible refine Below.drew ?_))⟩
    unfold TkAt
    repeat (first | with_reducible refine own_drew ?_ | with_reducible refine own_set ?_ (fun g hg => by have e1 := hne1 g hg; have e2 := hne2 g hg; simp; omega) _ | with_reducible refine World.ownsRow.alloc ?_ _)
    exact HV2.out
end Go.Proofs.Ytkdimkaladbnpaa
