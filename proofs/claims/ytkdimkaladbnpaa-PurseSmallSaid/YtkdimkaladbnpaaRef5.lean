/- The reference's Reserve. -/
import Derived.Test.YtkdimkaladbnpaaRef4
import Derived.Test.YtkdimkaladbnpaaTurn
namespace Go.Proofs.Ytkdimkaladbnpaa
open Go.ChangeShapes Go.WideShapes Go.ChangeAt Go.RowKit Go.Burg
open Go.Burg.Purse
variable {r : RSt} {v : Value}

theorem news3 (w : World) (H : Nat) (v1 v2 v3 : Value) (T : TypeId) (h : w.heap[H]? = some (.cells #[v1, v2, v3] T (0, 0))) : ∀ j u, [v1, v2, v3][j]? = some u → w.cell? ((⟨H, 0, none⟩ : Addr).add j) = some u := by
  intro j u hj
  rcases j with _ | _ | _ | j
  · simp at hj; subst hj; exact cell_of h 0
  · simp at hj; subst hj; exact cell_of h 1
  · simp at hj; subst hj; exact cell_of h 2
  · simp at hj

/-- What holds while Reserve returns. -/
structure TS (w : World) (r : RSt) (k y : Int) (v : Value) (w1 : World) : Prop where
  box : w1.heap[w.heap.size]? = some (.cells #[.int .u64 r.xk, .int .u64 r.xb, .int .u64 r.hk, .int .u64 r.hb, v] 39)
  bel : Below w.heap.size w w1
  tk : TkAt w1 v (r.T ++ [⟨k, y, true⟩])
theorem TS.drew {w : World} {r : RSt} {k y : Int} {v : Value} {w1 : World} (h : TS w r k y v w1) : TS w r k y v w1.drew := ⟨h.box, h.bel.drew, h.tk⟩
theorem TS.set {w : World} {r : RSt} {k y : Int} {v : Value} {w1 : World} {cs : Array Value} (h : TS w r k y v w1) (h1 : w1.heap[w.heap.size + 1]? = some (.cells cs 39)) (i : Nat) (u : Value) :
    TS w r k y v (w1.setCell ⟨w.heap.size + 1, i, none⟩ u) ∧ (w1.setCell ⟨w.heap.size + 1, i, none⟩ u).heap[w.heap.size + 1]? = some (.cells (cs.setIfInBounds i u) 39) :=
  ⟨⟨(Below.heap_setCell _ _ _ _ (by simp)).trans h.box, h.bel.setCell (by simp) _, own_set h.tk (own_ty h.tk h1 (by decide)) _⟩, heap_set h1⟩

set_option maxHeartbeats 1000000 in
theorem rreserve_any (w : World) (k y : Int) (h : TkAt w v r.T) (hi : RInv r) (hn : r.T.length ≤ 999) :
    Calls Try.prog 35 #[.agg #[.int .u64 r.xk, .int .u64 r.xb, .int .u64 r.hk, .int .u64 r.hb, v], .int .u64 k, .int .u64 y] w fun e w' => ∃ v',
      e = .returned (.tuple #[.agg #[.int .u64 (r.res k y).1.xk, .int .u64 (r.res k y).1.xb, .int .u64 (r.res k y).1.hk, .int .u64 (r.res k y).1.hb, v'], .int .i64 (r.res k y).2.1, .int .i64 (r.res k y).2.2]) ∧ TkAt w' v' (r.res k y).1.T ∧ Below w.heap.size w w' := by
  obtain ⟨it, hit, hz, hsz, hby⟩ := info_parts (P := Try.prog) (e := 73) (z := .agg #[.int .u64 0, .int .u64 0, .bool false]) (size := 3) (bytes := 24) (by kernel_rfl)
  have HIT := hid (And.intro hit (And.intro hz (And.intro hsz hby)))
  clear hit hz hsz hby
  have HH := hid h
  obtain ⟨a, cap, rfl, hform⟩ := h.form
  have HT := hid ((h.alloc (.cells #[.int .u64 r.xk, .int .u64 r.xb, .int .u64 r.hk, .int .u64 r.hb, .slice a r.T.length cap] 39)).alloc (.cells #[.int .u64 0, .int .u64 0, .int .u64 0, .int .u64 0, .slice none 0 0] 39))
  have H0 := hid (blk_alloc (o' := (.cells #[.int .u64 0, .int .u64 0, .int .u64 0, .int .u64 0, .slice none 0 0] 39)) (heap_new w (.cells #[.int .u64 r.xk, .int .u64 r.xb, .int .u64 r.hk, .int .u64 r.hb, .slice a r.T.length cap] 39)))
  have h1 : ((w.alloc (.cells #[.int .u64 r.xk, .int .u64 r.xb, .int .u64 r.hk, .int .u64 r.hb, .slice a r.T.length cap] 39)).alloc (.cells #[.int .u64 0, .int .u64 0, .int .u64 0, .int .u64 0, .slice none 0 0] 39)).heap[w.heap.size + 1]? = _ := heap_at (.cells #[.int .u64 0, .int .u64 0, .int .u64 0, .int .u64 0, .slice none 0 0] 39) (by simp)
  have H1 := hid h1
  have HW : Hid (Below w.heap.size w ((w.alloc (.cells #[.int .u64 r.xk, .int .u64 r.xb, .int .u64 r.hk, .int .u64 r.hb, .slice a r.T.length cap] 39)).alloc (.cells #[.int .u64 0, .int .u64 0, .int .u64 0, .int .u64 0, .slice none 0 0] 39))) := hid (((Below.refl _ _).alloc (Nat.le_refl _) _).alloc (by simp) _)
  have HF := hid hform
  clear h1 hform
  have h2 : (((w.alloc (.cells #[.int .u64 r.xk, .int .u64 r.xb, .int .u64 r.hk, .int .u64 r.hb, .slice a r.T.length cap] 39)).alloc (.cells #[.int .u64 0, .int .u64 0, .int .u64 0, .int .u64 0, .slice none 0 0] 39)).alloc (.cells #[.int .u64 k, .int .u64 y] 24)).heap[w.heap.size + 2]? = _ := heap_at (.cells #[.int .u64 k, .int .u64 y] 24) (by simp)
  have h0 := blk_alloc (o' := (.cells #[.int .u64 k, .int .u64 y] 24)) H0.out
  have h1 := blk_alloc (o' := (.cells #[.int .u64 k, .int .u64 y] 24)) H1.out
  have hT := HT.out.alloc (.cells #[.int .u64 k, .int .u64 y] 24)
  have hB := HW.out.alloc (by simp; omega) (.cells #[.int .u64 k, .int .u64 y] 24)
  clear HT H0 H1 HW h
  by_cases hf : r.fits k y
  · have e1 : r.res k y = (({ r with T := r.T ++ [(⟨k, y, true⟩ : Tk)] } : RSt), (r.T.length : Int) + 1, (0 : Int)) := if_pos hf
    rw [e1]
    have HW := hid (fun (w1 : World) => within_any k y (r.xk - (r.hk + okK r.T)) (r.xb - (r.hb + okB r.T)) true (decide_eq_true hf) w1)
    clear hf e1
    go_enter Try.func35, Try.ntmps35
    go_wp2_with fail
    generalize ((w.alloc (.cells #[.int .u64 r.xk, .int .u64 r.xb, .int .u64 r.hk, .int .u64 r.hb, .slice a r.T.length cap] 39)).alloc (.cells #[.int .u64 0, .int .u64 0, .int .u64 0, .int .u64 0, .slice none 0 0] 39)).alloc (.cells #[.int .u64 k, .int .u64 y] 24) = W at *
    have HI := hid hi
    have hzW := lt_of_block h2
    have H0 := hid h0
    have H1 := hid h1
    have H2 := hid h2
    have HT := hid hT
    have HB := hid hB
    clear h0 h1 h2 hT hB hi
    refine wp_region_seq 5 (fun w1 => Below (W).heap.size (W) w1) (by kernel_rfl) (by kernel_rfl) (by kernel_rfl) ⟨rfl, rfl, rfl, Nat.le_refl _, fun _ _ => rfl⟩ ?_
    dsimp only [List.take]
    iterate 5
      refine Seq.cons (a' := ?_) ?_ ?_ ?_
      rotate_left
      ·
        intro w1 hw1
        have k0 := blk_below H0.out hw1 (by omega)
        have k2 := blk_below H2.out hw1 (by omega)
        have a0 := cell_of k0 0
        have a1 := cell_of k0 1
        have a2 := cell_of k0 2
        have a3 := cell_of k0 3
        have a4 := cell_of k0 4
        have l0 := cell_of k2 0
        have l1 := cell_of k2 1
        clear k0 k2
        go_wp2_with (first | (go_at_call 37; refine (rleft_any _ (HT.out.keep hw1) HI.out (by omega)).mono ?_; rintro e w' ⟨rfl, hb⟩) | (go_at_call 50; refine (HW.out _).mono ?_; rintro e w' ⟨rfl, hb⟩))
        refine ⟨?_, by first | assumption | (simpa using below_chain hw1 hb hw1.size)⟩
        exact rfl
      · kernel_rfl
    refine SeqI.nil ?_
    intro _ w1 _ hw1
    dsimp only [List.drop]
    have k0 := blk_below H0.out hw1 (by omega)
    have k1 := blk_below H1.out hw1 (by omega)
    have k2 := blk_below H2.out hw1 (by omega)
    have hB1 := HB.out.trans (hw1.mono HB.out.size)
    have hT1 := HT.out.keep hw1
    have hzW1 := hw1.size
    clear hw1 HT H0 H1 H2 HB
    have a0 := cell_of k0 0
    have a1 := cell_of k0 1
    have a2 := cell_of k0 2
    have a3 := cell_of k0 3
    have a4 := cell_of k0 4
    have af := free_of k0
    have m0 := cell_of k1 0
    have m1 := cell_of k1 1
    have m2 := cell_of k1 2
    have m3 := cell_of k1 3
    have m4 := cell_of k1 4
    have mf := free_of k1
    go_wp2_with fail
    refine (rown_any r.xk r.xb r.hk r.hb r.T _ hT1 (by omega)).mono ?_
    rintro e w3 ⟨v1, rfl, hO, hB⟩
    clear a0 a1 a2 a3 a4 af m0 m1 m2 m3 m4 mf
    have hB1 := hB1.trans (hB.mono hB1.size)
    have k0 := blk_below k0 hB (lt_of_block k0)
    have k1 := blk_below k1 hB (lt_of_block k1)
    have k2 := blk_below k2 hB (lt_of_block k2)
    obtain ⟨a5, c5, rfl, hf5⟩ := row_two hO
    have hne1 : ∀ g, (Value.slice a5 r.T.length c5).ownBlock = some g → g ≠ w.heap.size + 1 := own_ty hO k1 (by decide)
    have hne2 : ∀ g, (Value.slice a5 r.T.length c5).ownBlock = some g → g ≠ w.heap.size := own_ty hO k0 (by decide)
    have l0 := cell_of k2 0
    have l1 := cell_of k2 1
    have a0 := cell_of k0 0
    have a1 := cell_of k0 1
    have a2 := cell_of k0 2
    have a3 := cell_of k0 3
    have a4 := cell_of k0 4
    have af := free_of k0
    have m0 := cell_of k1 0
    have m1 := cell_of k1 1
    have m2 := cell_of k1 2
    have m3 := cell_of k1 3
    have m4 := cell_of k1 4
    have mf := free_of k1
    have hbs : ∀ g, (Value.slice a5 r.T.length c5).ownBlock = some g → w.heap.size ≤ g := fun g hg => by have := (hO.lt g hg).1; omega
    have hw3 := hB1.size
    have hO5 : ((((((w3.setCell ⟨w.heap.size, 0, none⟩ (.int .u64 r.xk)).setCell ⟨w.heap.size, 1, none⟩ (.int .u64 r.xb)).setCell ⟨w.heap.size, 2, none⟩ (.int .u64 r.hk)).setCell ⟨w.heap.size, 3, none⟩ (.int .u64 r.hb)).setCell ⟨w.heap.size, 4, none⟩ (.slice a5 r.T.length c5)).alloc (.cells #[.int .u64 k, .int .u64 y, .bool true] 73)).ownsRow 0 73 3 (.slice a5 r.T.length c5) r.T.length (tkOf r.T) := by
      repeat (first | with_reducible refine own_drew ?_ | with_reducible refine own_set ?_ (fun g hg => by have e1 := hne1 g hg; have e2 := hne2 g hg; simp; omega) _ | with_reducible refine World.ownsRow.alloc ?_ _)
      exact (own_less hO (Nat.zero_le _))
    have k05 : ((((((w3.setCell ⟨w.heap.size, 0, none⟩ (.int .u64 r.xk)).setCell ⟨w.heap.size, 1, none⟩ (.int .u64 r.xb)).setCell ⟨w.heap.size, 2, none⟩ (.int .u64 r.hk)).setCell ⟨w.heap.size, 3, none⟩ (.int .u64 r.hb)).setCell ⟨w.heap.size, 4, none⟩ (.slice a5 r.T.length c5)).alloc (.cells #[.int .u64 k, .int .u64 y, .bool true] 73)).heap[w.heap.size]? = some (.cells #[.int .u64 r.xk, .int .u64 r.xb, .int .u64 r.hk, .int .u64 r.hb, .slice a5 r.T.length c5] 39) := blk_alloc ((heap_set (heap_set (heap_set (heap_set (heap_set k0))))).trans (by simp))
    have k15 : ((((((w3.setCell ⟨w.heap.size, 0, none⟩ (.int .u64 r.xk)).setCell ⟨w.heap.size, 1, none⟩ (.int .u64 r.xb)).setCell ⟨w.heap.size, 2, none⟩ (.int .u64 r.hk)).setCell ⟨w.heap.size, 3, none⟩ (.int .u64 r.hb)).setCell ⟨w.heap.size, 4, none⟩ (.slice a5 r.T.length c5)).alloc (.cells #[.int .u64 k, .int .u64 y, .bool true] 73)).heap[w.heap.size + 1]? = _ := blk_alloc ((Below.heap_setCell _ _ _ _ (by simp)).trans ((Below.heap_setCell _ _ _ _ (by simp)).trans ((Below.heap_setCell _ _ _ _ (by simp)).trans ((Below.heap_setCell _ _ _ _ (by simp)).trans ((Below.heap_setCell _ _ _ _ (by simp)).trans k1)))))
    have hnw : ((((((w3.setCell ⟨w.heap.size, 0, none⟩ (.int .u64 r.xk)).setCell ⟨w.heap.size, 1, none⟩ (.int .u64 r.xb)).setCell ⟨w.heap.size, 2, none⟩ (.int .u64 r.hk)).setCell ⟨w.heap.size, 3, none⟩ (.int .u64 r.hb)).setCell ⟨w.heap.size, 4, none⟩ (.slice a5 r.T.length c5)).alloc (.cells #[.int .u64 k, .int .u64 y, .bool true] 73)).heap[w3.heap.size]? = some (.cells #[.int .u64 k, .int .u64 y, .bool true] 73) := heap_at (.cells #[.int .u64 k, .int .u64 y, .bool true] 73) (by simp)
    have hB5 : Below w.heap.size w ((((((w3.setCell ⟨w.heap.size, 0, none⟩ (.int .u64 r.xk)).setCell ⟨w.heap.size, 1, none⟩ (.int .u64 r.xb)).setCell ⟨w.heap.size, 2, none⟩ (.int .u64 r.hk)).setCell ⟨w.heap.size, 3, none⟩ (.int .u64 r.hb)).setCell ⟨w.heap.size, 4, none⟩ (.slice a5 r.T.length c5)).alloc (.cells #[.int .u64 k, .int .u64 y, .bool true] 73)) := by (repeat (first | with_reducible exact hB1 | with_reducible refine Below.setCell ?_ (by first | (simp; done) | (simp; omega)) _ | with_reducible refine Below.alloc ?_ (by first | (simp; done) | (simp; omega)) _ | with_reducible refine Below.drew ?_))
    have HO := hid hO5
    have HN := hid (news3 _ _ _ _ _ _ hnw)
    have K0 := hid k05
    have K1 := hid k15
    have HB5 := hid hB5
    have HBS := hid hbs
    have HN1 := hid hne1
    have HN2 := hid hne2
    have hz3 := lt_of_block k2
    clear hbs hO hO5 k05 k15 hnw hB5 hf5 hne1 hne2 hB1 k0 k1 k2 hB hT1
    go_wp2_with (at_builtin; go_loud (refine wpList_append_own _ rfl (.tmp 22) (.tmp 25) 37 rfl 0 73 it _ 3 24 Try.underlying37 HIT.out.1 HIT.out.2.1 HIT.out.2.2.1 HIT.out.2.2.2 rfl (by decide) _ r.T.length (tkOf r.T) rfl HO.out ⟨w3.heap.size, 0, none⟩ 1 1 [.int .u64 k, .int .u64 y, .bool true] rfl rfl HN.out (by simp [Value.oneCell']) (by simp [maxLen]; omega) (by omega) (Nat.zero_le _) ?_))
    intro v6 w6 hO6 hgr _
    have hB6 := below_grown HB5.out hgr HBS.out HB5.out.size
    have k06 := (hgr.block w.heap.size (lt_of_block K0.out) (fun e => HN2.out _ e.symm rfl)).trans K0.out
    have k16 := (hgr.block (w.heap.size + 1) (lt_of_block K1.out) (fun e => HN1.out _ e.symm rfl)).trans K1.out
    obtain ⟨a7, c7, rfl, _⟩ := row_two hO6
    have hne1 : ∀ g, (Value.slice a7 (r.T.length + 1) c7).ownBlock = some g → g ≠ w.heap.size + 1 := own_ty hO6 k16 (by decide)
    have hne2 : ∀ g, (Value.slice a7 (r.T.length + 1) c7).ownBlock = some g → g ≠ w.heap.size := own_ty hO6 k06 (by decide)
    clear a0 a1 a2 a3 a4 af m0 m1 m2 m3 m4 mf l0 l1 K0 K1 HB5 HBS hgr HN HO HN1 HN2
    have a0 := cell_of k06 0
    have a1 := cell_of k06 1
    have a2 := cell_of k06 2
    have a3 := cell_of k06 3
    have a4 := cell_of k06 4
    have af := free_of k06
    have m0 := cell_of k16 0
    have m1 := cell_of k16 1
    have m2 := cell_of k16 2
    have m3 := cell_of k16 3
    have m4 := cell_of k16 4
    have mf := free_of k16
    have HO := hid hO6
    have HN1 := hid hne1
    have HN2 := hid hne2
    have hB1 := hB6
    have hz0 := lt_of_block k06
    have hz1 := lt_of_block k16
    clear hO6 hne1 hne2 hB6
    have K0 := hid k06
    have K1 := hid k16
    clear k06 k16
    go_wp2_with fail
    have h0 : (w6.setCell ⟨w.heap.size, 4, none⟩ (.slice a7 (r.T.length + 1) c7)).heap[w.heap.size]? = some (.cells #[.int .u64 r.xk, .int .u64 r.xb, .int .u64 r.hk, .int .u64 r.hb, (.slice a7 (r.T.length + 1) c7)] 39) := (heap_set K0.out).trans (by simp)
    have h1 : (w6.setCell ⟨w.heap.size, 4, none⟩ (.slice a7 (r.T.length + 1) c7)).heap[w.heap.size + 1]? = some (.cells #[.int .u64 0, .int .u64 0, .int .u64 0, .int .u64 0, .slice none 0 0] 39) := (Below.heap_setCell _ _ _ _ (by simp)).trans K1.out
    have hB7 : Below w.heap.size w (w6.setCell ⟨w.heap.size, 4, none⟩ (.slice a7 (r.T.length + 1) c7)) := hB1.setCell (Nat.le_refl _) _
    have hT7 : TkAt (w6.setCell ⟨w.heap.size, 4, none⟩ (.slice a7 (r.T.length + 1) c7)) (.slice a7 (r.T.length + 1) c7) (r.T ++ [⟨k, y, true⟩]) := by
      unfold TkAt
      rw [List.length_append, tkOf_app]
      exact own_set HO.out HN2.out _
    clear HO HN2 hB1 K0 K1 a0 a1 a2 a3 a4 af m0 m1 m2 m3 m4 mf
    generalize w6.setCell ⟨w.heap.size, 4, none⟩ (.slice a7 (r.T.length + 1) c7) = W6 at *
    have HS : Hid (TS w r k y (.slice a7 (r.T.length + 1) c7) W6) := hid ⟨h0, hB7, hT7⟩
    have H1 := hid h1
    clear h0 h1 hB7 hT7
    refine wp_region_seqI 7 (Turn 4 (fun w1 => TS w r k y (.slice a7 (r.T.length + 1) c7) w1 ∧ w1.heap[w.heap.size + 1]? = some (.cells #[.int .u64 0, .int .u64 0, .int .u64 0, .int .u64 0, .slice none 0 0] 39)) (fun w1 => TS w r k y (.slice a7 (r.T.length + 1) c7) w1 ∧ w1.heap[w.heap.size + 1]? = some (.cells #[.int .u64 r.xk, .int .u64 r.xb, .int .u64 r.hk, .int .u64 r.hb, (.slice a7 (r.T.length + 1) c7)] 39))) (by kernel_rfl) (by kernel_rfl) (by kernel_rfl) (Turn.start ⟨HS.out.drew, H1.out⟩) ?_
    dsimp only [List.take]
    iterate 4
      refine Seq.calm (a' := ?_) (by decide) ?_ ?_ ?_
      rotate_left
      ·
        intro w1 hw1
        have k0 : w1.heap[w.heap.size]? = some (.cells #[.int .u64 r.xk, .int .u64 r.xb, .int .u64 r.hk, .int .u64 r.hb, (.slice a7 (r.T.length + 1) c7)] 39) := by rcases hw1 with h | h <;> exact h.1.1
        have a0 := cell_of k0 0
        have a1 := cell_of k0 1
        have a2 := cell_of k0 2
        have a3 := cell_of k0 3
        have a4 := cell_of k0 4
        clear hw1 k0
        go_wp2_with (fail)
        refine ⟨?_, id, id⟩
        exact rfl
      · kernel_rfl
    refine Seq.turn (a' := ?_) ?_ ?_ ?_
    rotate_left
    ·
      intro w1 hw1
      obtain ⟨h0, h1⟩ := hw1
      have m0 := cell_of h1 0
      have m1 := cell_of h1 1
      have m2 := cell_of h1 2
      have m3 := cell_of h1 3
      have m4 := cell_of h1 4
      have mf := free_of h1
      have hlt := lt_of_block h1
      have K1 := hid h1
      have K0 := hid h0
      clear h0 h1
      go_wp2_with (fail)
      obtain ⟨s0, t0⟩ := K0.out.set K1.out 0 (.int .u64 r.xk)
      obtain ⟨s1, t1⟩ := s0.set t0 1 (.int .u64 r.xb)
      obtain ⟨s2, t2⟩ := s1.set t1 2 (.int .u64 r.hk)
      obtain ⟨s3, t3⟩ := s2.set t2 3 (.int .u64 r.hb)
      obtain ⟨s4, t4⟩ := s3.set t3 4 (.slice a7 (r.T.length + 1) c7)
      refine ⟨?_, s4, t4.trans (by simp)⟩
      exact rfl
    · kernel_rfl
    iterate 2
      refine Seq.calm (a' := ?_) (by decide) ?_ ?_ ?_
      rotate_left
      ·
        intro w1 hw1
        have k0 : w1.heap[w.heap.size]? = some (.cells #[.int .u64 r.xk, .int .u64 r.xb, .int .u64 r.hk, .int .u64 r.hb, (.slice a7 (r.T.length + 1) c7)] 39) := by rcases hw1 with h | h <;> exact h.1.1
        have a0 := cell_of k0 0
        have a1 := cell_of k0 1
        have a2 := cell_of k0 2
        have a3 := cell_of k0 3
        have a4 := cell_of k0 4
        clear hw1 k0
        go_wp2_with (fail)
        refine ⟨?_, id, id⟩
        exact rfl
      · kernel_rfl
    refine SeqI.nil ?_
    intro D w1 hD hI
    replace hI := hI.done (hD 4 (by omega))
    clear hD
    dsimp only [List.drop]
    obtain ⟨hS, hb1⟩ := hI
    have m0 := cell_of hb1 0
    have m1 := cell_of hb1 1
    have m2 := cell_of hb1 2
    have m3 := cell_of hb1 3
    have m4 := cell_of hb1 4
    have HS2 := hid hS
    clear hS hb1
    go_wp2_with fail
    refine bodyPost_ret (v := .tuple #[.agg #[.int .u64 r.xk, .int .u64 r.xb, .int .u64 r.hk, .int .u64 r.hb, (.slice a7 (r.T.length + 1) c7)], .int .i64 ((r.T.length : Int) + 1), .int .i64 0]) (by simp [results, Try.results35, go_sem, m0, m1, m2, m3, m4]) rfl ⟨_, rfl, HS2.out.tk, HS2.out.bel⟩
  · have e1 : r.res k y = (r, 0, 10) := if_neg hf
    rw [e1]
    have HW := hid (fun (w1 : World) => within_any k y (r.xk - (r.hk + okK r.T)) (r.xb - (r.hb + okB r.T)) false (decide_eq_false hf) w1)
    clear hf e1
    go_enter Try.func35, Try.ntmps35
    go_wp2_with fail
    generalize ((w.alloc (.cells #[.int .u64 r.xk, .int .u64 r.xb, .int .u64 r.hk, .int .u64 r.hb, .slice a r.T.length cap] 39)).alloc (.cells #[.int .u64 0, .int .u64 0, .int .u64 0, .int .u64 0, .slice none 0 0] 39)).alloc (.cells #[.int .u64 k, .int .u64 y] 24) = W at *
    have HI := hid hi
    have hzW := lt_of_block h2
    have H0 := hid h0
    have H1 := hid h1
    have H2 := hid h2
    have HT := hid hT
    have HB := hid hB
    clear h0 h1 h2 hT hB hi
    refine wp_region_seq 5 (fun w1 => Below (W).heap.size (W) w1) (by kernel_rfl) (by kernel_rfl) (by kernel_rfl) ⟨rfl, rfl, rfl, Nat.le_refl _, fun _ _ => rfl⟩ ?_
    dsimp only [List.take]
    iterate 5
      refine Seq.cons (a' := ?_) ?_ ?_ ?_
      rotate_left
      ·
        intro w1 hw1
        have k0 := blk_below H0.out hw1 (by omega)
        have k2 := blk_below H2.out hw1 (by omega)
        have a0 := cell_of k0 0
        have a1 := cell_of k0 1
        have a2 := cell_of k0 2
        have a3 := cell_of k0 3
        have a4 := cell_of k0 4
        have l0 := cell_of k2 0
        have l1 := cell_of k2 1
        clear k0 k2
        go_wp2_with (first | (go_at_call 37; refine (rleft_any _ (HT.out.keep hw1) HI.out (by omega)).mono ?_; rintro e w' ⟨rfl, hb⟩) | (go_at_call 50; refine (HW.out _).mono ?_; rintro e w' ⟨rfl, hb⟩))
        refine ⟨?_, by first | assumption | (simpa using below_chain hw1 hb hw1.size)⟩
        exact rfl
      · kernel_rfl
    refine SeqI.nil ?_
    intro _ w1 _ hw1
    dsimp only [List.drop]
    have k0 := blk_below H0.out hw1 (by omega)
    have k1 := blk_below H1.out hw1 (by omega)
    have hB1 := HB.out.trans (hw1.mono HB.out.size)
    have hzW1 := hw1.size
    clear hw1
    have a0 := cell_of k0 0
    have a1 := cell_of k0 1
    have a2 := cell_of k0 2
    have a3 := cell_of k0 3
    have a4 := cell_of k0 4
    have af := free_of k0
    have m0 := cell_of k1 0
    have m1 := cell_of k1 1
    have m2 := cell_of k1 2
    have m3 := cell_of k1 3
    have m4 := cell_of k1 4
    have mf := free_of k1
    go_wp2_with fail
    refine bodyPost_ret (v := .tuple #[.agg #[.int .u64 r.xk, .int .u64 r.xb, .int .u64 r.hk, .int .u64 r.hb, (.slice a r.T.length cap)], .int .i64 0, .int .i64 10]) (by simp [results, Try.results35, go_sem, m0, m1, m2, m3, m4]) rfl ⟨_, with_keep HH.out rfl (by (repeat (first | with_reducible exact hB1 | with_reducible refine Below.setCell ?_ (by first | (simp; done) | (simp; omega)) _ | with_reducible refine Below.alloc ?_ (by first | (simp; done) | (simp; omega)) _ | with_reducible refine Below.drew ?_)))⟩
end Go.Proofs.Ytkdimkaladbnpaa
