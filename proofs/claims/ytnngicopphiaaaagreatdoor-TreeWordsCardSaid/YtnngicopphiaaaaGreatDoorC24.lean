/- Part 24 of 51 of a proof: lemmas on the functions that it reaches. -/
import Derived.Test.YtnngicopphiaaaaGreatDoorC23
import Derived.Maps.RangeWalk
import Derived.Test.YtnngicopphiaaaaGreatDoorC03
import Derived.BigQuiet
namespace Go.Burg
open Go Go.RowKit
section
variable {α β : Type} {kf : α → Value} {vf : β → Value} {P : Program} {K E T : TypeId} {w : World} {m r : Nat} {l left : List (α × β)}
theorem born_erase {L : List MapEntry} (hn : (L.map (·.born)).Nodup) {j : Nat} {e : MapEntry} (h : L[j]? = some e) : L.filter (fun x => !(x.born == e.born)) = L.eraseIdx j := by
  induction L generalizing j with
  | nil => simp at h
  | cons x L ih =>
    simp only [List.map_cons, List.nodup_cons] at hn
    cases j with
    | zero =>
      simp at h
      subst h
      simp only [List.filter_cons, beq_self_eq_true, Bool.not_true, Bool.false_eq_true, if_false, List.eraseIdx_cons_zero]
      refine List.filter_eq_self.2 fun y hy => ?_
      have : y.born ≠ x.born := fun e => hn.1 (List.mem_map.2 ⟨y, hy, e⟩)
      simpa using this
    | succ j =>
      have h' : L[j]? = some e := by simpa using h
      have hne : x.born ≠ e.born := fun e' => hn.1 (List.mem_map.2 ⟨e, List.mem_of_getElem? h', e'.symm⟩)
      have hb : (x.born == e.born) = false := by simpa using hne
      simp only [List.filter_cons, hb, Bool.not_false, if_true, List.eraseIdx_cons_succ]
      rw [ih hn.2 h']
def IterOf (kf : α → Value) (vf : β → Value) (w : World) (m r : Nat) (left : List (α × β)) : Prop :=
  ∃ es c since seen c0, w.heap[m]? = some (.map es c) ∧ Stamps es c ∧ w.heap[r]? = some (.mapIter (some m) since seen c0) ∧ (∀ x ∈ es.toList, x.born < since) ∧ since ≤ c0 ∧ since ≤ c ∧
    (leftOf es seen).toList.map (fun e => (e.key, e.val)) = left.map (fun x => (kf x.1, vf x.2))
theorem IterOf.same {w' : World} (h : IterOf kf vf w m r left) (h1 : w'.heap[m]? = w.heap[m]?) (h2 : w'.heap[r]? = w.heap[r]?) : IterOf kf vf w' m r left := by
  obtain ⟨es, c, since, seen, c0, a1, a2, a3, a4⟩ := h
  exact ⟨es, c, since, seen, c0, h1.trans a1, a2, h2.trans a3, a4⟩
theorem IterOf.lt (h : IterOf kf vf w m r left) : m < w.heap.size ∧ r < w.heap.size := by
  obtain ⟨es, c, since, seen, c0, a1, a2, a3, a4⟩ := h
  exact ⟨lt_of_block a1, lt_of_block a3⟩
theorem IterOf.keep {w' : World} (h : IterOf kf vf w m r left) (hb : Below w.heap.size w w') : IterOf kf vf w' m r left := h.same (hb.block _ h.lt.1) (hb.block _ h.lt.2)
theorem IterOf.left_eq (h : IterOf kf vf w m r left) : w.rangeLeft m r = left.length := by
  obtain ⟨es, c, since, seen, c0, a1, a2, a3, a4, a5, _, a6⟩ := h
  have := congrArg List.length a6
  simp only [World.rangeLeft, a1, a3]
  simpa using this
theorem MapOf.iter (hT : P.underlying T = some (.map K E)) (h : MapOf kf vf w m l) :
    ∃ w', (Instr.range T (.map (some m))).run P w = .ok (.pointer (some ⟨w.heap.size, 0, none⟩)) w' ∧ Below w.heap.size w w' ∧ w'.heap.size = w.heap.size + 1 ∧ IterOf kf vf w' m w.heap.size l := by
  obtain ⟨es, c, h1, h2, h3, h4⟩ := h
  refine ⟨_, run_range_map w T K E m es c hT h1, (Below.refl _ _).alloc (Nat.le_refl _) _, by simp, es, c, c, #[], c, ?_, h3, heap_new _ _, h3.1, Nat.le_refl _, Nat.le_refl _, ?_⟩
  · exact (Below.heap_alloc _ _ _ (lt_of_block h1)).trans h1
  · have : leftOf es #[] = es := by unfold leftOf; simp
    rw [this]; exact h2
theorem IterOf.next (h : IterOf kf vf w m r left) (ty : TypeId) :
    (left = [] ∧ (Instr.next (.pointer (some ⟨r, 0, none⟩)) false ty).run P w = .ok (.tuple #[.bool false]) w) ∨
    ∃ j x w', left[j]? = some x ∧ (Instr.next (.pointer (some ⟨r, 0, none⟩)) false ty).run P w = .ok (.tuple #[.bool true, kf x.1, vf x.2]) w' ∧ IterOf kf vf w' m r (left.eraseIdx j) ∧ Mod (· = r) w w' ∧ w'.heap.size = w.heap.size ∧
      (Instr.entry (.pointer (some ⟨r, 0, none⟩))).run P w' = .ok (.tuple #[kf x.1, vf x.2]) w' := by
  obtain ⟨es, c, since, seen, c0, a1, a2, a3, a4, a5, a7, a6⟩ := h
  rcases run_next_at (P := P) w ty r m since c0 seen es c a3 a1 a4 a5 with ⟨h0, hr⟩ | ⟨e, he, w1, hw1, hr⟩
  · refine .inl ⟨?_, hr⟩
    have := congrArg List.length a6
    simp at this
    exact List.length_eq_zero_iff.1 (by omega)
  · obtain ⟨j, hj⟩ := List.getElem?_of_mem he
    obtain ⟨x, hx, hk, hv⟩ := entry_at a6 hj
    have hne : r ≠ m := fun e => by subst e; rw [a1] at a3; cases a3
    have hmem := mem_left he
    have hheap : w1.heap = w.heap := hw1.elim (fun h => by rw [h]) (fun h => by rw [h]; rfl)
    have hh : ∀ i : Nat, w1.heap[i]? = w.heap[i]? := fun i => by rw [hheap]
    have b1 : (ChangeMaps.setBlock w1 r (.mapIter (some m) since (seen.push e.born) c)).heap[m]? = some (.map es c) := by
      simp only [ChangeMaps.setBlock, Array.getElem?_setIfInBounds_ne hne]
      rw [hh]; exact a1
    have b2 : (ChangeMaps.setBlock w1 r (.mapIter (some m) since (seen.push e.born) c)).heap[r]? = some (.mapIter (some m) since (seen.push e.born) c) := by
      have hl : r < w1.heap.size := lt_of_block ((hh r).trans a3)
      simp [ChangeMaps.setBlock, hl]
    have hM : Mod (· = r) w (ChangeMaps.setBlock w1 r (.mapIter (some m) since (seen.push e.born) c)) := by
      have h1 : Mod (· = r) w w1 := hw1.elim (fun h => by rw [h]; exact Mod.refl _ _) (fun h => by rw [h]; exact (Mod.refl _ _).drew)
      exact h1.setObj (.inl rfl) _
    have hsz : (ChangeMaps.setBlock w1 r (.mapIter (some m) since (seen.push e.born) c)).heap.size = w.heap.size := by
      simp [ChangeMaps.setBlock, hheap]
    have hen := run_entry_at (P := P) _ r m since seen es c e b2 b1 hmem.1 a2.2
    rw [hk, hv] at hen hr
    refine .inr ⟨j, x, _, hx, hr, ⟨es, c, since, seen.push e.born, c, b1, a2, b2, a4, a7, a7, ?_⟩, hM, hsz, hen⟩
    have e1 : (leftOf es (seen.push e.born)).toList = (leftOf es seen).toList.eraseIdx j := by
      have hn : ((leftOf es seen).toList.map (·.born)).Nodup := by
        unfold leftOf
        rw [Array.toList_filter]
        exact List.Nodup.sublist (List.Sublist.map _ List.filter_sublist) a2.2
      rw [← born_erase hn hj]
      unfold leftOf
      rw [Array.toList_filter, Array.toList_filter, List.filter_filter]
      refine List.filter_congr fun y _ => ?_
      rw [contains_push, Bool.not_or, Bool.and_comm]
    rw [e1, ChangeMaps.map_eraseIdx, ChangeMaps.map_eraseIdx, a6]
end
section
variable {α β : Type} {kf : α → Value} {vf : β → Value} {P : Program} {K E T : TypeId} {w : World} {m r : Nat} {l left : List (α × β)}
variable {ops : Array Oper} {rest : List Oper} {o : Oper} {a : Act} {Q : Exit → Act → World → Prop}
theorem wpList_range_map (hg : o.guard = none) (M : Operand) (T : TypeId) (hop : o.op = Op.range T M) (hT : P.underlying T = some (.map K E)) (hM : a.eval M = .map (some m)) (h : MapOf kf vf w m l)
    (hK : ∀ w', Below w.heap.size w w' → w'.heap.size = w.heap.size + 1 → IterOf kf vf w' m w.heap.size l → wpList P ops Q rest (a.put o.dst (.pointer (some ⟨w.heap.size, 0, none⟩))) w') : wpList P ops Q (o :: rest) a w := by
  refine wpList_plain hg fun K' hK' => ?_
  obtain ⟨w', hrun, r1, r2, r3⟩ := h.iter hT
  unfold Oper.wp
  simp [execOp, hop, hM, hrun, Result.andThen]
  exact hK' _ _ (hK w' r1 r2 r3)
theorem wpList_next_iter (hg : o.guard = none) (it : Operand) (hop : o.op = Op.next it false) (hit : a.eval it = .pointer (some ⟨r, 0, none⟩)) (h : IterOf kf vf w m r left)
    (hDone : left = [] → wpList P ops Q rest (a.put o.dst (.tuple #[.bool false])) w)
    (hMore : ∀ j x w', left[j]? = some x → IterOf kf vf w' m r (left.eraseIdx j) → Mod (· = r) w w' → w'.heap.size = w.heap.size → (Instr.entry (.pointer (some ⟨r, 0, none⟩))).run P w' = .ok (.tuple #[kf x.1, vf x.2]) w' →
      wpList P ops Q rest (a.put o.dst (.tuple #[.bool true, kf x.1, vf x.2])) w') : wpList P ops Q (o :: rest) a w := by
  refine wpList_plain hg fun K' hK' => ?_
  unfold Oper.wp
  rcases h.next (P := P) o.type with ⟨h0, hrun⟩ | ⟨j, x, w', hx, hrun, hI, hM, hs, hen⟩
  · simp [execOp, hop, hit, hrun, Result.andThen]
    exact hK' _ _ (hDone h0)
  · simp [execOp, hop, hit, hrun, Result.andThen]
    exact hK' _ _ (hMore j x w' hx hI hM hs hen)
end
end Go.Burg

namespace Go.Proofs.YtnngicopphiaaaaGreatDoor.K
set_option maxRecDepth 8000
open Go.ChangeShapes Go.WideShapes Go.ChangeAt Go.RowKit Go.Burg
open Go.Burg.Lk
def lkp {α β : Type} [DecidableEq α] (l : List (α × β)) (k : α) : Option β := l.lookup k
def LBlk (mp : Option Nat) (tk : Int) : Obj := .cells #[.map mp, .int .i64 tk] 111 (0, 0)
def LocksAt (w : World) (b m : Nat) (l : List (RefK × Wd)) (tk : Int) : Prop := w.heap[b]? = some (LBlk (some m) tk) ∧ MapOf refV wV w m l
theorem LocksAt.lt {w : World} {b m : Nat} {l : List (RefK × Wd)} {tk : Int} (h : LocksAt w b m l tk) : b < w.heap.size ∧ m < w.heap.size := ⟨lt_of_block h.1, h.2.lt⟩
theorem LocksAt.ne {w : World} {b m : Nat} {l : List (RefK × Wd)} {tk : Int} (h : LocksAt w b m l tk) : b ≠ m := fun e => by
  obtain ⟨es, c, h1, _⟩ := h.2
  have h2 := h.1
  subst e
  rw [h2] at h1
  cases h1
theorem LocksAt.below {w w' : World} {b m B : Nat} {l : List (RefK × Wd)} {tk : Int} (h : LocksAt w b m l tk) (hb : Below B w w') (h1 : b < B) (h2 : m < B) : LocksAt w' b m l tk := ⟨blk_below h.1 hb h1, h.2.below hb h2⟩
theorem LocksAt.keep {w w' : World} {b m : Nat} {l : List (RefK × Wd)} {tk : Int} (h : LocksAt w b m l tk) (hb : Below w.heap.size w w') : LocksAt w' b m l tk := h.below hb h.lt.1 h.lt.2
theorem LocksAt.alloc {w : World} {b m : Nat} {l : List (RefK × Wd)} {tk : Int} (h : LocksAt w b m l tk) (o : Obj) : LocksAt (w.alloc o) b m l tk := ⟨blk_alloc h.1, h.2.alloc o⟩
theorem LocksAt.mod {w w' : World} {b m : Nat} {l : List (RefK × Wd)} {tk : Int} {S : Nat → Prop} (h : LocksAt w b m l tk) (hM : Mod S w w') (h1 : ¬ S b) (h2 : ¬ S m) : LocksAt w' b m l tk := ⟨(hM.block b h.lt.1 h1).trans h.1, h.2.mod hM h2⟩
def Own (b m : Nat) (i : Nat) : Prop := i = b ∨ i = m
theorem lfacts {w : World} {b : Nat} {mp : Option Nat} {tk : Int} (h : w.heap[b]? = some (LBlk mp tk)) :
    w.cell? ⟨b, 0, none⟩ = some (.map mp) ∧ w.cell? ⟨b, 1, none⟩ = some (.int .i64 tk) ∧ (∀ i, w.frozen? ⟨b, i, none⟩ = false) ∧ b < w.heap.size := by
  have hc := cell_of h
  exact ⟨hc 0, hc 1, free_of h, lt_of_block h⟩
theorem zeroWord (w : World) : (zeroValue 34).run Tryz.prog w = .ok (wV ⟨0, by omega, by omega⟩) w := by kernel_rfl
def w0 : Wd := ⟨0, by omega, by omega⟩
theorem lk_run {w : World} {m : Nat} {l : List (RefK × Wd)} (h : MapOf refV wV w m l) (r : RefK) :
    (Instr.lookup 107 (.map (some m)) (.agg #[.int .i64 r.1.1, .int .u32 r.1.2]) true).run Tryz.prog w = .ok (.tuple #[.int .u64 ((lkp l r).getD w0).1, .bool (lkp l r).isSome]) w := by
  have := h.lookup refKey Tryz.underlying107 zeroWord r true
  cases ho : lkp l r <;> unfold lkp at ho <;> rw [ho] at this <;> exact this
theorem there_yes (b m : Nat) (tk : Int) (w : World) (h : w.heap[b]? = some (LBlk (some m) tk)) : Calls Tryz.prog 57 #[.pointer (some ⟨b, 0, none⟩)] w fun e w' => e = .returned (.bool true) ∧ w = w' := by
  obtain ⟨c0, c1, cf, cl⟩ := lfacts h
  have qT : ∀ (w : World) (r : Option Nat), (binOp .neq 107 (.map r) (.map none)).run Tryz.prog w = .ok (.bool (!r.isNone)) w := fun w r => run_neq_map_nil w _ _ _ r Tryz.underlying107
  go_enter Tryz.func57, Tryz.ntmps57
  go_wp2
  go_ret
  exact ⟨rfl, rfl⟩
section
variable {w : World} {b m : Nat} {l : List (RefK × Wd)} {tk : Int}
theorem taken_at (h : LocksAt w b m l tk) : Calls Tryz.prog 33 #[.pointer (some ⟨b, 0, none⟩)] w fun e w' => e = .returned (.int .i64 tk) ∧ w = w' := by
  have h1 := h.1
  have HT := hid (there_yes b m tk w h.1)
  clear h
  obtain ⟨c0, c1, cf, cl⟩ := lfacts h1
  go_enter Tryz.func33, Tryz.ntmps33
  go_wp2_with (first | (go_at_call 57; refine HT.out.mono ?_; rintro e w' ⟨rfl, rfl⟩))
  go_ret
  exact ⟨rfl, rfl⟩
theorem boxed (h : LocksAt w b m l tk) (r : RefK) : LocksAt (w.alloc (.cells #[.int .i64 r.1.1, .int .u32 r.1.2] 30)) b m l tk ∧ (w.alloc (.cells #[.int .i64 r.1.1, .int .u32 r.1.2] 30)).heap[w.heap.size]? = some (.cells #[.int .i64 r.1.1, .int .u32 r.1.2] 30) := ⟨h.alloc _, heap_new _ _⟩
theorem is_at (h : LocksAt w b m l tk) (r : RefK) (x : Wd) : Calls Tryz.prog 70 #[.pointer (some ⟨b, 0, none⟩), .agg #[.int .i64 r.1.1, .int .u32 r.1.2], .int .u64 x.1] w fun e w' => e = .returned (.bool (decide (lkp l r = some x))) ∧ Below w.heap.size w w' := by
  obtain ⟨hA, hN⟩ := boxed h r
  obtain ⟨c0, c1, cf, cl⟩ := lfacts hA.1
  have hL : ∀ n, (Instr.lookup 107 (.map (some m)) (.agg #[.int .i64 r.1.1, .int .u32 r.1.2]) true).run Tryz.prog ((w.alloc (.cells #[.int .i64 r.1.1, .int .u32 r.1.2] 30)).drewN n) = .ok (.tuple #[.int .u64 ((lkp l r).getD w0).1, .bool (lkp l r).isSome]) ((w.alloc (.cells #[.int .i64 r.1.1, .int .u32 r.1.2] 30)).drewN n) := fun n => lk_run (hA.2.same (by simp)) r
  clear h
  cases hl : lkp l r with
  | none =>
    rw [hl] at hL
    simp only [Option.getD_none, Option.isSome_none] at hL
    go_enter Tryz.func70, Tryz.ntmps70
    go_wp2
    go_quiet (fail)
    go_wp2
    go_ret
    refine ⟨?_, by (repeat (first | exact Below.refl _ _ | assumption | with_reducible refine Below.drew ?_ | with_reducible refine below_drewN ?_ | with_reducible refine Below.setCell ?_ (by first | (simp; done) | (simp; omega)) _ | with_reducible refine Below.alloc ?_ (by first | exact Nat.le_refl _ | (simp; done) | (simp; omega)) _))⟩
    simp
  | some y =>
    rw [hl] at hL
    simp only [Option.getD_some, Option.isSome_some] at hL
    go_enter Tryz.func70, Tryz.ntmps70
    go_wp2
    go_quiet (fail)
    go_wp2
    go_ret
    refine ⟨?_, by (repeat (first | exact Below.refl _ _ | assumption | with_reducible refine Below.drew ?_ | with_reducible refine below_drewN ?_ | with_reducible refine Below.setCell ?_ (by first | (simp; done) | (simp; omega)) _ | with_reducible refine Below.alloc ?_ (by first | exact Nat.le_refl _ | (simp; done) | (simp; omega)) _))⟩
    have e : (decide (some y = some x)) = (x.1 == y.1) := by
      rw [Bool.eq_iff_iff]
      simp only [decide_eq_true_eq, beq_iff_eq, Option.some.injEq]
      exact ⟨fun e => by rw [e], fun e => Subtype.ext e.symm⟩
    rw [e]; rfl
theorem check_at (h : LocksAt w b m l tk) (r : RefK) (x : Wd) : Calls Tryz.prog 34 #[.pointer (some ⟨b, 0, none⟩), .agg #[.int .i64 r.1.1, .int .u32 r.1.2], .int .u64 x.1] w fun e w' => e = .returned (.bool (decide (lkp l r = some x))) ∧ Below w.heap.size w w' := by
  obtain ⟨hA, hN⟩ := boxed h r
  have HA := hid hA
  have HN := hid hN
  have hlt := h.lt
  generalize hv : decide (lkp l r = some x) = v
  have HI := hid (fun (w1 : World) (h : LocksAt w1 b m l tk) => is_at h r x)
  rw [hv] at HI
  have HT := hid (fun (w1 : World) (h : LocksAt w1 b m l tk) => there_yes b m tk w1 h.1)
  clear h hA hN hv
  go_enter Tryz.func34, Tryz.ntmps34
  go_wp2
  refine wp_region_seq 11 (fun w1 => Below ((w.alloc (.cells #[.int .i64 r.1.1, .int .u32 r.1.2] 30))).heap.size ((w.alloc (.cells #[.int .i64 r.1.1, .int .u32 r.1.2] 30))) w1) (by kernel_rfl) (by kernel_rfl) (by kernel_rfl) ⟨rfl, rfl, rfl, Nat.le_refl _, fun _ _ => rfl⟩ ?_
  dsimp only [List.take]
  iterate 11
    refine Seq.cons (a' := ?_) ?_ ?_ ?_
    rotate_left
    ·
      intro w1 hw1
      have hP := hid (HA.out.keep hw1)
      have k0 := blk_below HN.out hw1 (by simp)
      have n0 := cell_of k0 0
      have n1 := cell_of k0 1
      have k1 := cell_of hP.out.1 0
      clear k0
      go_wp2_with (first | (go_at_call 57; refine (HT.out _ hP.out).mono ?_; rintro e w' ⟨rfl, rfl⟩) | (go_at_call 70; refine (HI.out _ hP.out).mono ?_; rintro e w' ⟨rfl, hb⟩))
      refine ⟨?_, by first | assumption | (simpa using below_chain hw1 hb hw1.size)⟩
      exact rfl
    · kernel_rfl
  refine SeqI.nil ?_
  intro _ w1 _ hw1
  dsimp only [List.drop]
  go_wp2
  go_ret
  exact ⟨rfl, below_chain ((Below.refl _ _).alloc (Nat.le_refl _) _) hw1 (by simp)⟩
def beg (l : List (RefK × Wd)) (r : RefK) : Int × Int := match lkp l r with
  | none => (0, 2)
  | some x => (x.1, if x.dead then 2 else if x.locked then 1 else 0)
theorem begin_at (h : LocksAt w b m l tk) (r : RefK) : Calls Tryz.prog 25 #[.pointer (some ⟨b, 0, none⟩), .agg #[.int .i64 r.1.1, .int .u32 r.1.2]] w fun e w' => e = .returned (.tuple #[.int .u64 (beg l r).1, .int .i64 (beg l r).2]) ∧ Below w.heap.size w w' := by
  obtain ⟨hA, hN⟩ := boxed h r
  obtain ⟨c0, c1, cf, cl⟩ := lfacts hA.1
  have hL : ∀ n, (Instr.lookup 107 (.map (some m)) (.agg #[.int .i64 r.1.1, .int .u32 r.1.2]) true).run Tryz.prog ((w.alloc (.cells #[.int .i64 r.1.1, .int .u32 r.1.2] 30)).drewN n) = .ok (.tuple #[.int .u64 ((lkp l r).getD w0).1, .bool (lkp l r).isSome]) ((w.alloc (.cells #[.int .i64 r.1.1, .int .u32 r.1.2] 30)).drewN n) := fun n => lk_run (hA.2.same (by simp)) r
  have HT := hid (there_yes b m tk _ hA.1)
  clear h
  unfold beg
  cases hl : lkp l r with
  | none =>
    rw [hl] at hL
    simp only [Option.getD_none, Option.isSome_none] at hL
    go_enter Tryz.func25, Tryz.ntmps25
    go_wp2_with (go_at_call 57; refine HT.out.mono ?_; rintro e w' ⟨rfl, rfl⟩)
    go_quiet (fail)
    go_wp2
    go_ret2
    exact ⟨rfl, by (repeat (first | exact Below.refl _ _ | assumption | with_reducible refine Below.drew ?_ | with_reducible refine below_drewN ?_ | with_reducible refine Below.setCell ?_ (by first | (simp; done) | (simp; omega)) _ | with_reducible refine Below.alloc ?_ (by first | exact Nat.le_refl _ | (simp; done) | (simp; omega)) _))⟩
  | some y =>
    rw [hl] at hL
    simp only [Option.getD_some, Option.isSome_some] at hL
    have HD := hid (fun w => Dead_any y w)
    have HL := hid (fun w => Locked_any y w)
    cases hd : y.dead <;> cases hk : y.locked
    all_goals
      rw [hd] at HD
      rw [hk] at HL
      go_enter Tryz.func25, Tryz.ntmps25
      go_wp2_with (go_at_call 57; refine HT.out.mono ?_; rintro e w' ⟨rfl, rfl⟩)
      go_quiet (fail)
      go_wp2_with (first | (go_at_call 58; refine (HD.out _).mono ?_; rintro e w1 ⟨rfl, hb1⟩) | (go_at_call 59; refine (HL.out _).mono ?_; rintro e w2 ⟨rfl, hb2⟩))
      all_goals go_ret2
      all_goals refine ⟨rfl, ?_⟩
      all_goals have hB1 : Below w.heap.size w w1 := below_chain (below_drewN (n := nq) ((Below.refl _ _).alloc (Nat.le_refl _) _)) hb1 (by simp)
      all_goals first | exact below_chain hB1 hb2 hB1.size | exact hB1
end
end Go.Proofs.YtnngicopphiaaaaGreatDoor.K
