/- The reference's small functions: within, Bound, Left, Open, open. -/
import Derived.Test.YtkdimkaladbnpaaPurse9
import Derived.Test.YtkdimkaladbnpaaRefM
import Derived.StillTailTactics
import Derived.OwnWalk
import Derived.Laws.OwnMore
namespace Go.Proofs.Ytkdimkaladbnpaa
open Go.ChangeShapes Go.WideShapes Go.ChangeAt Go.RowKit Go.Burg
open Go.Burg.Purse

theorem within_any (a b c d : Int) (r : Bool) (hr : decide (a ≤ c ∧ b ≤ d) = r) (w : World) :
    Calls Try.prog 50 #[.agg #[.int .u64 a, .int .u64 b], .agg #[.int .u64 c, .int .u64 d]] w fun e w' => e = .returned (.bool r) ∧ Below w.heap.size w w' := by
  subst hr
  by_cases h1 : a ≤ c <;> by_cases h2 : b ≤ d
  all_goals
    simp only [h1, h2, decide_true, decide_false, and_true, and_false]
    go_enter Try.func50, Try.ntmps50
    go_wp2
    go_ret
    exact ⟨rfl, by (repeat (first | exact Below.refl _ _ | assumption | refine Below.drew ?_ | refine Below.setCell ?_ (by simp) _ | refine Below.alloc ?_ (by first | exact Nat.le_refl _ | (simp; done) | (simp; omega)) _))⟩

/-- The cells of tickets. -/
def tkOf (T : List Tk) : List Value := T.flatMap fun t => [.int .u64 t.k, .int .u64 t.y, .bool t.op]
theorem tkOf_len (T : List Tk) : (tkOf T).length = T.length * 3 := by
  induction T with
  | nil => rfl
  | cons t T ih => simp only [tkOf, List.flatMap_cons, List.length_append, List.length_cons, List.length_nil] at ih ⊢; omega
theorem tkOf_app (T S : List Tk) : tkOf (T ++ S) = tkOf T ++ tkOf S := by simp [tkOf]
theorem tkOf_at : ∀ {T : List Tk} {n : Nat} {t : Tk}, T[n]? = some t → (tkOf T)[n * 3]? = some (.int .u64 t.k) ∧ (tkOf T)[n * 3 + 1]? = some (.int .u64 t.y) ∧ (tkOf T)[n * 3 + 2]? = some (.bool t.op) := by
  intro T
  induction T with
  | nil => intro n t h; simp at h
  | cons a T ih =>
    intro n t h
    cases n with
    | zero => simp at h; subst h; simp [tkOf]
    | succ n =>
      simp at h
      have := ih h
      simp only [tkOf, List.flatMap_cons] at this ⊢
      rw [List.getElem?_append_right (by simp; omega), List.getElem?_append_right (by simp; omega), List.getElem?_append_right (by simp; omega)]
      simp only [List.length_cons, List.length_nil]
      rw [show (n + 1) * 3 - (0 + 1 + 1 + 1) = n * 3 by omega, show (n + 1) * 3 + 1 - (0 + 1 + 1 + 1) = n * 3 + 1 by omega, show (n + 1) * 3 + 2 - (0 + 1 + 1 + 1) = n * 3 + 2 by omega]
      exact this

/-- A slice of tickets. -/
def TkAt (w : World) (v : Value) (T : List Tk) : Prop := w.ownsRow 0 73 3 v T.length (tkOf T)
theorem grown_bel {w w' : World} (h : Below w.heap.size w w') : w.grownBy w' none := ⟨h.os, h.tape, h.output, h.size, fun k hk _ => h.block k hk⟩
theorem TkAt.keep {w w' : World} {v : Value} {T : List Tk} (h : TkAt w v T) (hb : Below w.heap.size w w') : TkAt w' v T := World.ownsRow.kept h (grown_bel hb) (Classical.em _)
theorem TkAt.alloc {w : World} {v : Value} {T : List Tk} (h : TkAt w v T) (o : Obj) : TkAt (w.alloc o) v T := World.ownsRow.alloc h o
theorem TkAt.nil (w : World) : TkAt w (.slice none 0 0) [] := World.ownsRow_nil _ _ _ _
theorem TkAt.form {w : World} {v : Value} {T : List Tk} (h : TkAt w v T) : ∃ a cap, v = .slice a T.length cap ∧ (0 < T.length → ∃ g, a = some ⟨g, 0, none⟩ ∧ g < w.heap.size ∧ T.length ≤ cap ∧ cap ≤ maxLen) := by
  rcases h.2 with ⟨rfl, h0⟩ | ⟨g, cap, cur, rfl, _, hg, h1, h2, _⟩
  · exact ⟨none, 0, by rw [h0], fun h => by omega⟩
  · exact ⟨_, cap, rfl, fun _ => ⟨g, rfl, lt_of_block hg, h1, h2⟩⟩
theorem TkAt.cells {w : World} {g cap n : Nat} {T : List Tk} {t : Tk} (h : TkAt w (.slice (some ⟨g, 0, none⟩) T.length cap) T) (ht : T[n]? = some t) :
    w.cell? ⟨g, n * 3, none⟩ = some (.int .u64 t.k) ∧ w.cell? ⟨g, n * 3 + 1, none⟩ = some (.int .u64 t.y) ∧ w.cell? ⟨g, n * 3 + 2, none⟩ = some (.bool t.op) := by
  have hn := (List.getElem?_eq_some_iff.1 ht).1
  obtain ⟨h1, h2, h3⟩ := tkOf_at ht
  exact ⟨(World.ownsRow.cellAt h _ (by omega)).trans h1, (World.ownsRow.cellAt h _ (by omega)).trans h2, (World.ownsRow.cellAt h _ (by omega)).trans h3⟩

variable {r : RSt} {v : Value}

theorem heap_at {w : World} {n : Nat} (o : Obj) (h : w.heap.size = n) : (w.alloc o).heap[n]? = some o := by subst h; exact heap_new w o

/-- The sums while the loop goes. -/
theorem sums_at (hi : RInv r) (i : Nat) : 0 ≤ r.hk + okK (r.T.take i) ∧ r.hk + okK (r.T.take i) ≤ big ∧ 0 ≤ r.hb + okB (r.T.take i) ∧ r.hb + okB (r.T.take i) ≤ big := by
  have := okK_pos (hi.pos.take i)
  have := okB_pos (hi.pos.take i)
  have := okK_le hi.pos i
  have := okB_le hi.pos i
  have := hi.hk; have := hi.hb; have := hi.fk; have := hi.fb; have := hi.xk; have := hi.xb
  omega

set_option maxHeartbeats 1000000 in
theorem rbound_any (w : World) (h : TkAt w v r.T) (hi : RInv r) (hn : r.T.length ≤ 1000) :
    Calls Try.prog 36 #[.agg #[.int .u64 r.xk, .int .u64 r.xb, .int .u64 r.hk, .int .u64 r.hb, v]] w fun e w' => e = .returned (.agg #[.int .u64 (r.hk + okK r.T), .int .u64 (r.hb + okB r.T)]) ∧ Below w.heap.size w w' := by
  obtain ⟨a, cap, rfl, hform⟩ := h.form
  have HF := hid hform
  have HI := hid hi
  clear hform hi
  go_enter Try.func36, Try.ntmps36
  go_wp2_with fail
  go_loopw [4] (fun iv wr => ∃ (i : Nat) (x y : Int), i ≤ r.T.length ∧ iv = .int .i64 i ∧ Hid (x = r.hk + okK (r.T.take i)) ∧ Hid (y = r.hb + okB (r.T.take i)) ∧ Below w.heap.size w wr ∧
    wr.heap[w.heap.size]? = some (.cells #[.int .u64 r.xk, .int .u64 r.xb, .int .u64 r.hk, .int .u64 r.hb, .slice a r.T.length cap] 39) ∧ wr.heap[w.heap.size + 1]? = some (.cells #[.int .u64 0, .int .u64 0] 24) ∧ wr.heap[w.heap.size + 2]? = some (.cells #[.int .u64 x, .int .u64 y] 24)) (fun iv _ => r.T.length - (intOf iv).toNat)
  case atStart =>
    exact ⟨0, r.hk, r.hb, Nat.zero_le _, rfl, by simp [Hid, okK], by simp [Hid, okB], by (repeat (first | exact Below.refl _ _ | assumption | refine Below.drew ?_ | refine Below.setCell ?_ (by simp) _ | refine Below.alloc ?_ (by first | exact Nat.le_refl _ | (simp; done) | (simp; omega)) _)), blk_alloc (blk_alloc (heap_new _ _)), blk_alloc (heap_at _ (by simp)), heap_at _ (by simp)⟩
  case round =>
    obtain ⟨i, x, y, hi, rfl, HX, HY, hB, h0, h1, h2⟩ := hrel
    have b4 := cell_of h0 4
    have l0 := cell_of h2 0
    have l1 := cell_of h2 1
    have lf := free_of h2
    have hsz := lt_of_block h2
    by_cases hlt : i < r.T.length
    · obtain ⟨t, ht⟩ : ∃ t, r.T[i]? = some t := ⟨r.T[i], by simp [hlt]⟩
      obtain ⟨g, rfl, hg, hc1, hc2⟩ := HF.out (by omega)
      unfold maxLen at hc2
      obtain ⟨t0, t1, t2⟩ := (h.keep hB).cells ht
      have ek := okK_take ht
      have eb := okB_take ht
      obtain ⟨s1, s2, s3, s4⟩ := sums_at HI.out (i + 1)
      rw [ek] at s1 s2
      rw [eb] at s3 s4
      have EK := hid ek
      have EB := hid eb
      have H0 := hid h0
      have H1 := hid h1
      have H2 := hid h2
      have HB := hid hB
      have hgw := hB.size
      have HT := hid h
      clear ek eb h0 h1 h2 hB h
      obtain ⟨tk, ty, top⟩ := t
      simp only at t0 t1 t2 s1 s2 s3 s4 EK EB
      cases top
      · clear s1 s2 s3 s4
        go_wp2_with fail
        go_roundw
        case rel => exact ⟨i + 1, x, y, by omega, by go_num, by rw [EK.out, HX.out]; simp [Hid], by rw [EB.out, HY.out]; simp [Hid], HB.out, H0.out, H1.out, H2.out⟩
        case measure => simp [intOf]; omega
      · have hx : IntKind.u64.wrap (x + tk) = x + tk := by
          simp only [if_true] at s1 s2
          rw [HX.out]
          exact wrap_in (by omega) (by omega)
        have hy : IntKind.u64.wrap (y + ty) = y + ty := by
          simp only [if_true] at s3 s4
          rw [HY.out]
          exact wrap_in (by omega) (by omega)
        have hng : ¬ w.heap.size + 2 = g := by omega
        clear s1 s2 s3 s4
        go_wp2_with fail
        go_still_tail 11, (by kernel_rfl)
        go_wp2_with fail
        have hB1 : Below w.heap.size w (wr.setCell ⟨w.heap.size + 1 + 1, 0, none⟩ (.int .u64 (x + tk))).drew := (HB.out.setCell (by simp; omega) _).drew
        have k0 : (wr.setCell ⟨w.heap.size + 1 + 1, 0, none⟩ (.int .u64 (x + tk))).drew.heap[w.heap.size]? = _ := (Below.heap_setCell _ _ _ _ (by simp; omega)).trans H0.out
        have k1 : (wr.setCell ⟨w.heap.size + 1 + 1, 0, none⟩ (.int .u64 (x + tk))).drew.heap[w.heap.size + 1]? = _ := (Below.heap_setCell _ _ _ _ (by simp)).trans H1.out
        have k2 : (wr.setCell ⟨w.heap.size + 1 + 1, 0, none⟩ (.int .u64 (x + tk))).drew.heap[w.heap.size + 2]? = some (.cells #[.int .u64 (x + tk), .int .u64 y] 24) := (heap_set H2.out).trans (by simp)
        clear b4 l0 l1 lf t0 t1 t2 HB H0 H1 H2 hx hsz hgw
        generalize (wr.setCell ⟨w.heap.size + 1 + 1, 0, none⟩ (.int .u64 (x + tk))).drew = W at *
        have b4 := cell_of k0 4
        have l1 := cell_of k2 1
        have lf := free_of k2
        obtain ⟨t0, t1, t2⟩ := (HT.out.keep hB1).cells ht
        simp only at t0 t1 t2
        have hsz := lt_of_block k2
        have hgw := hB1.size
        have H0 := hid k0
        have H1 := hid k1
        have H2 := hid k2
        have HB := hid hB1
        clear k0 k1 k2 hB1
        go_still_tail 11, (by kernel_rfl)
        go_wp2_with fail
        have k0 : (W.setCell ⟨w.heap.size + 1 + 1, 1, none⟩ (.int .u64 (y + ty))).drew.heap[w.heap.size]? = _ := (Below.heap_setCell _ _ _ _ (by simp; omega)).trans H0.out
        have k1 : (W.setCell ⟨w.heap.size + 1 + 1, 1, none⟩ (.int .u64 (y + ty))).drew.heap[w.heap.size + 1]? = _ := (Below.heap_setCell _ _ _ _ (by simp)).trans H1.out
        have k2 : (W.setCell ⟨w.heap.size + 1 + 1, 1, none⟩ (.int .u64 (y + ty))).drew.heap[w.heap.size + 2]? = some (.cells #[.int .u64 (x + tk), .int .u64 (y + ty)] 24) := (heap_set H2.out).trans (by simp)
        go_roundw
        case rel => exact ⟨i + 1, x + tk, y + ty, by omega, by go_num, by rw [EK.out, HX.out]; simp [Hid]; omega, by rw [EB.out, HY.out]; simp [Hid]; omega, (HB.out.setCell (by simp; omega) _).drew, k0, k1, k2⟩
        case measure => simp [intOf]; omega
    · obtain rfl : i = r.T.length := by omega
      have m0 := cell_of h1 0
      have m1 := cell_of h1 1
      have mf := free_of h1
      rw [List.take_length] at HX HY
      go_wp2_with fail
      refine bodyPost_ret (v := .agg #[.int .u64 x, .int .u64 y]) (by simp [results, Try.results36, go_sem, m0, m1]) rfl ⟨by rw [HX.out, HY.out], ?_⟩
      exact (hB.setCell (by simp) _).setCell (by simp) _

theorem rleft_any (w : World) (h : TkAt w v r.T) (hi : RInv r) (hn : r.T.length ≤ 1000) :
    Calls Try.prog 37 #[.agg #[.int .u64 r.xk, .int .u64 r.xb, .int .u64 r.hk, .int .u64 r.hb, v]] w fun e w' => e = .returned (.agg #[.int .u64 (r.xk - (r.hk + okK r.T)), .int .u64 (r.xb - (r.hb + okB r.T))]) ∧ Below w.heap.size w w' := by
  obtain ⟨a, cap, rfl, _⟩ := h.form
  have := okK_pos hi.pos; have := okB_pos hi.pos
  have := hi.hk; have := hi.hb; have := hi.fk; have := hi.fb; have := hi.xk; have := hi.xb
  have w1 : IntKind.u64.wrap (r.xk - (r.hk + okK r.T)) = r.xk - (r.hk + okK r.T) := wrap_in (by omega) (by omega)
  have w2 : IntKind.u64.wrap (r.xb - (r.hb + okB r.T)) = r.xb - (r.hb + okB r.T) := wrap_in (by omega) (by omega)
  have W1 := hid w1
  have W2 := hid w2
  have HB := hid (rbound_any _ ((h.alloc (.cells #[.int .u64 r.xk, .int .u64 r.xb, .int .u64 r.hk, .int .u64 r.hb, .slice a r.T.length cap] 39)).alloc (.cells #[.int .u64 0, .int .u64 0] 24)) hi hn)
  have h0 := blk_alloc (o' := (.cells #[.int .u64 0, .int .u64 0] 24)) (heap_new w (.cells #[.int .u64 r.xk, .int .u64 r.xb, .int .u64 r.hk, .int .u64 r.hb, .slice a r.T.length cap] 39))
  have h1 : ((w.alloc (.cells #[.int .u64 r.xk, .int .u64 r.xb, .int .u64 r.hk, .int .u64 r.hb, .slice a r.T.length cap] 39)).alloc (.cells #[.int .u64 0, .int .u64 0] 24)).heap[w.heap.size + 1]? = _ := heap_at (.cells #[.int .u64 0, .int .u64 0] 24) (by simp)
  have H0 := hid h0
  have H1 := hid h1
  clear w1 w2 h0 h1 h
  generalize okK r.T = sk at *
  generalize okB r.T = sb at *
  go_enter Try.func37, Try.ntmps37
  go_wp2_with fail
  refine HB.out.mono ?_
  rintro e w1 ⟨rfl, hB⟩
  have k0 := blk_below H0.out hB (by simp; omega)
  have k1 := blk_below H1.out hB (by simp)
  have a0 := cell_of k0 0
  have a1 := cell_of k0 1
  have m0 := cell_of k1 0
  have m1 := cell_of k1 1
  have mf := free_of k1
  have hsz := lt_of_block k1
  have u1 := W1.out
  have u2 := W2.out
  have hBw : Below w.heap.size w w1 := (((Below.refl _ _).alloc (Nat.le_refl _) _).alloc (by simp) _).trans (hB.mono (by simp; omega))
  clear k0 k1 hB
  have hs0 : w.heap.size < w1.heap.size := by omega
  go_wp2_with fail
  refine bodyPost_ret (v := .agg #[.int .u64 (r.xk - (r.hk + sk)), .int .u64 (r.xb - (r.hb + sb))]) (by simp [results, Try.results37, go_sem, m0, m1, hsz]) rfl ⟨rfl, by (repeat (first | exact Below.refl _ _ | assumption | refine Below.drew ?_ | refine Below.setCell ?_ (by first | (simp; done) | (simp; omega)) _ | refine Below.alloc ?_ (by first | exact Nat.le_refl _ | (simp; done) | (simp; omega)) _))⟩

theorem ropen_any (w : World) (t : Int) (h : TkAt w v r.T) (hn : r.T.length ≤ 1000) (o : Bool) (ho : r.isOpen t = o) :
    Calls Try.prog 48 #[.agg #[.int .u64 r.xk, .int .u64 r.xb, .int .u64 r.hk, .int .u64 r.hb, v], .int .i64 t] w fun e w' => e = .returned (.bool o) ∧ Below w.heap.size w w' := by
  obtain ⟨a, cap, rfl, hform⟩ := h.form
  unfold RSt.isOpen at ho
  by_cases h1 : 1 ≤ t
  · by_cases h2 : t ≤ r.T.length
    · obtain ⟨i, rfl⟩ : ∃ i : Nat, t = i + 1 := ⟨(t - 1).toNat, by omega⟩
      have e : ((i : Int) + 1 - 1).toNat = i := by omega
      have hil : i < r.T.length := by omega
      obtain ⟨x, hx⟩ : ∃ x, r.T[i]? = some x := ⟨r.T[i], by simp [hil]⟩
      obtain ⟨g, rfl, hg, hc1, hc2⟩ := hform (by omega)
      unfold maxLen at hc2
      have hd1 : decide ((1 : Int) ≤ (i : Int) + 1) = true := by simp; omega
      have hd2 : decide ((i : Int) + 1 ≤ (r.T.length : Int)) = true := by simp; omega
      have e1 : IntKind.i64.wrap ((i : Int) + 1 - 1) = (i : Int) := by rw [show (i : Int) + 1 - 1 = (i : Int) by omega]; exact IntWalk.i64_in _ (by omega)
      obtain ⟨_, _, t2⟩ := (h.alloc (.cells #[.int .u64 r.xk, .int .u64 r.xb, .int .u64 r.hk, .int .u64 r.hb, .slice (some ⟨g, 0, none⟩) r.T.length cap] 39)).cells hx
      rw [e, List.getD_eq_getElem?_getD, hx, hd1, hd2] at ho
      simp at ho
      rw [ho] at t2
      clear ho hd1 hd2 e hx h1 h2
      go_enter Try.func48, Try.ntmps48
      go_wp2_with fail
      go_ret
      exact ⟨rfl, by (repeat (first | exact Below.refl _ _ | assumption | refine Below.drew ?_ | refine Below.setCell ?_ (by first | (simp; done) | (simp; omega)) _ | refine Below.alloc ?_ (by first | exact Nat.le_refl _ | (simp; done) | (simp; omega)) _))⟩
    · have hd1 : decide ((1 : Int) ≤ t) = true := by simpa using h1
      have hd2 : decide (t ≤ (r.T.length : Int)) = false := by simpa using h2
      rw [hd1, hd2] at ho
      simp at ho
      subst ho
      clear h1 h2 hform h
      go_enter Try.func48, Try.ntmps48
      go_wp2_with fail
      go_ret
      exact ⟨rfl, by (repeat (first | exact Below.refl _ _ | assumption | refine Below.drew ?_ | refine Below.setCell ?_ (by first | (simp; done) | (simp; omega)) _ | refine Below.alloc ?_ (by first | exact Nat.le_refl _ | (simp; done) | (simp; omega)) _))⟩
  · have hd1 : decide ((1 : Int) ≤ t) = false := by simpa using h1
    rw [hd1] at ho
    simp at ho
    subst ho
    clear h1 hform h
    go_enter Try.func48, Try.ntmps48
    go_wp2_with fail
    go_ret
    exact ⟨rfl, by (repeat (first | exact Below.refl _ _ | assumption | refine Below.drew ?_ | refine Below.setCell ?_ (by first | (simp; done) | (simp; omega)) _ | refine Below.alloc ?_ (by first | exact Nat.le_refl _ | (simp; done) | (simp; omega)) _))⟩
end Go.Proofs.Ytkdimkaladbnpaa
