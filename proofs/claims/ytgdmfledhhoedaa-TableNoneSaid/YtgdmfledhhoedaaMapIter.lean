/- Ranging over a map: what is still to come, as a list; in whatever order. -/
import Derived.Test.YtgdmfledhhoedaaMaps
import Derived.Maps.RangeWalk
namespace Go.Burg
open Go Go.RowKit
section
variable {α β : Type} {kf : α → Value} {vf : β → Value} {P : Program} {K E T : TypeId} {w : World} {m r : Nat} {l left : List (α × β)}

theorem born_erase {L : List MapEntry} (hn : (L.map (·.born)).Nodup) {j : Nat} {e : MapEntry} (h : L[j]? = some e) : L.filter (fun x => !(x.born == e.born)) = L.eraseIdx j := by
  induction L generalizing j with
  | nil => simp at h
  | cons x L ih =>
    simp only [List.map_cons, List.nodup_cons] at hn
    cases j with
    | zero =>
      simp at h
      subst h
      simp only [List.filter_cons, beq_self_eq_true, Bool.not_true, Bool.false_eq_true, if_false, List.eraseIdx_cons_zero]
      refine List.filter_eq_self.2 fun y hy => ?_
      have : y.born ≠ x.born := fun e => hn.1 (List.mem_map.2 ⟨y, hy, e⟩)
      simpa using this
    | succ j =>
      have h' : L[j]? = some e := by simpa using h
      have hne : x.born ≠ e.born := fun e' => hn.1 (List.mem_map.2 ⟨e, List.mem_of_getElem? h', e'.symm⟩)
      have hb : (x.born == e.born) = false := by simpa using hne
      simp only [List.filter_cons, hb, Bool.not_false, if_true, List.eraseIdx_cons_succ]
      rw [ih hn.2 h']

/-- Block r is an iterator over the map in block m; left: what is still to come. -/
def IterOf (kf : α → Value) (vf : β → Value) (w : World) (m r : Nat) (left : List (α × β)) : Prop :=
  ∃ es c since seen c0, w.heap[m]? = some (.map es c) ∧ Stamps es c ∧ w.heap[r]? = some (.mapIter (some m) since seen c0) ∧ (∀ x ∈ es.toList, x.born < since) ∧ since ≤ c0 ∧ since ≤ c ∧
    (leftOf es seen).toList.map (fun e => (e.key, e.val)) = left.map (fun x => (kf x.1, vf x.2))

theorem IterOf.same {w' : World} (h : IterOf kf vf w m r left) (h1 : w'.heap[m]? = w.heap[m]?) (h2 : w'.heap[r]? = w.heap[r]?) : IterOf kf vf w' m r left := by
  obtain ⟨es, c, since, seen, c0, a1, a2, a3, a4⟩ := h
  exact ⟨es, c, since, seen, c0, h1.trans a1, a2, h2.trans a3, a4⟩
theorem IterOf.lt (h : IterOf kf vf w m r left) : m < w.heap.size ∧ r < w.heap.size := by
  obtain ⟨es, c, since, seen, c0, a1, a2, a3, a4⟩ := h
  exact ⟨lt_of_block a1, lt_of_block a3⟩
theorem IterOf.keep {w' : World} (h : IterOf kf vf w m r left) (hb : Below w.heap.size w w') : IterOf kf vf w' m r left := h.same (hb.block _ h.lt.1) (hb.block _ h.lt.2)
theorem IterOf.left_eq (h : IterOf kf vf w m r left) : w.rangeLeft m r = left.length := by
  obtain ⟨es, c, since, seen, c0, a1, a2, a3, a4, a5, _, a6⟩ := h
  have := congrArg List.length a6
  simp only [World.rangeLeft, a1, a3]
  simpa using this

theorem MapOf.iter (hT : P.underlying T = some (.map K E)) (h : MapOf kf vf w m l) :
    ∃ w', (Instr.range T (.map (some m))).run P w = .ok (.pointer (some ⟨w.heap.size, 0, none⟩)) w' ∧ Below w.heap.size w w' ∧ w'.heap.size = w.heap.size + 1 ∧ IterOf kf vf w' m w.heap.size l := by
  obtain ⟨es, c, h1, h2, h3, h4⟩ := h
  refine ⟨_, run_range_map w T K E m es c hT h1, (Below.refl _ _).alloc (Nat.le_refl _) _, by simp, es, c, c, #[], c, ?_, h3, heap_new _ _, h3.1, Nat.le_refl _, Nat.le_refl _, ?_⟩
  · exact (Below.heap_alloc _ _ _ (lt_of_block h1)).trans h1
  · have : leftOf es #[] = es := by unfold leftOf; simp
    rw [this]; exact h2

theorem IterOf.next (h : IterOf kf vf w m r left) (ty : TypeId) :
    (left = [] ∧ (Instr.next (.pointer (some ⟨r, 0, none⟩)) false ty).run P w = .ok (.tuple #[.bool false]) w) ∨
    ∃ j x w', left[j]? = some x ∧ (Instr.next (.pointer (some ⟨r, 0, none⟩)) false ty).run P w = .ok (.tuple #[.bool true, kf x.1, vf x.2]) w' ∧ IterOf kf vf w' m r (left.eraseIdx j) ∧ Mod (· = r) w w' ∧ w'.heap.size = w.heap.size ∧
      (Instr.entry (.pointer (some ⟨r, 0, none⟩))).run P w' = .ok (.tuple #[kf x.1, vf x.2]) w' := by
  obtain ⟨es, c, since, seen, c0, a1, a2, a3, a4, a5, a7, a6⟩ := h
  rcases run_next_at (P := P) w ty r m since c0 seen es c a3 a1 a4 a5 with ⟨h0, hr⟩ | ⟨e, he, w1, hw1, hr⟩
  · refine .inl ⟨?_, hr⟩
    have := congrArg List.length a6
    simp at this
    exact List.length_eq_zero_iff.1 (by omega)
  · obtain ⟨j, hj⟩ := List.getElem?_of_mem he
    obtain ⟨x, hx, hk, hv⟩ := entry_at a6 hj
    have hne : r ≠ m := fun e => by subst e; rw [a1] at a3; cases a3
    have hmem := mem_left he
    have hheap : w1.heap = w.heap := hw1.elim (fun h => by rw [h]) (fun h => by rw [h]; rfl)
    have hh : ∀ i : Nat, w1.heap[i]? = w.heap[i]? := fun i => by rw [hheap]
    have b1 : (ChangeMaps.setBlock w1 r (.mapIter (some m) since (seen.push e.born) c)).heap[m]? = some (.map es c) := by
      simp only [ChangeMaps.setBlock, Array.getElem?_setIfInBounds_ne hne]
      rw [hh]; exact a1
    have b2 : (ChangeMaps.setBlock w1 r (.mapIter (some m) since (seen.push e.born) c)).heap[r]? = some (.mapIter (some m) since (seen.push e.born) c) := by
      have hl : r < w1.heap.size := lt_of_block ((hh r).trans a3)
      simp [ChangeMaps.setBlock, hl]
    have hM : Mod (· = r) w (ChangeMaps.setBlock w1 r (.mapIter (some m) since (seen.push e.born) c)) := by
      have h1 : Mod (· = r) w w1 := hw1.elim (fun h => by rw [h]; exact Mod.refl _ _) (fun h => by rw [h]; exact (Mod.refl _ _).drew)
      exact h1.setObj (.inl rfl) _
    have hsz : (ChangeMaps.setBlock w1 r (.mapIter (some m) since (seen.push e.born) c)).heap.size = w.heap.size := by
      simp [ChangeMaps.setBlock, hheap]
    have hen := run_entry_at (P := P) _ r m since seen es c e b2 b1 hmem.1 a2.2
    rw [hk, hv] at hen hr
    refine .inr ⟨j, x, _, hx, hr, ⟨es, c, since, seen.push e.born, c, b1, a2, b2, a4, a7, a7, ?_⟩, hM, hsz, hen⟩
    have e1 : (leftOf es (seen.push e.born)).toList = (leftOf es seen).toList.eraseIdx j := by
      have hn : ((leftOf es seen).toList.map (·.born)).Nodup := by
        unfold leftOf
        rw [Array.toList_filter]
        exact List.Nodup.sublist (List.Sublist.map _ List.filter_sublist) a2.2
      rw [← born_erase hn hj]
      unfold leftOf
      rw [Array.toList_filter, Array.toList_filter, List.filter_filter]
      refine List.filter_congr fun y _ => ?_
      rw [contains_push, Bool.not_or, Bool.and_comm]
    rw [e1, ChangeMaps.map_eraseIdx, ChangeMaps.map_eraseIdx, a6]
end

section
variable {α β : Type} {kf : α → Value} {vf : β → Value} {P : Program} {K E T : TypeId} {w : World} {m r : Nat} {l left : List (α × β)}
variable {ops : Array Oper} {rest : List Oper} {o : Oper} {a : Act} {Q : Exit → Act → World → Prop}

theorem wpList_range_map (hg : o.guard = none) (M : Operand) (T : TypeId) (hop : o.op = Op.range T M) (hT : P.underlying T = some (.map K E)) (hM : a.eval M = .map (some m)) (h : MapOf kf vf w m l)
    (hK : ∀ w', Below w.heap.size w w' → w'.heap.size = w.heap.size + 1 → IterOf kf vf w' m w.heap.size l → wpList P ops Q rest (a.put o.dst (.pointer (some ⟨w.heap.size, 0, none⟩))) w') : wpList P ops Q (o :: rest) a w := by
  refine wpList_plain hg fun K' hK' => ?_
  obtain ⟨w', hrun, r1, r2, r3⟩ := h.iter hT
  unfold Oper.wp
  simp [execOp, hop, hM, hrun, Result.andThen]
  exact hK' _ _ (hK w' r1 r2 r3)

theorem wpList_next_iter (hg : o.guard = none) (it : Operand) (hop : o.op = Op.next it false) (hit : a.eval it = .pointer (some ⟨r, 0, none⟩)) (h : IterOf kf vf w m r left)
    (hDone : left = [] → wpList P ops Q rest (a.put o.dst (.tuple #[.bool false])) w)
    (hMore : ∀ j x w', left[j]? = some x → IterOf kf vf w' m r (left.eraseIdx j) → Mod (· = r) w w' → w'.heap.size = w.heap.size → (Instr.entry (.pointer (some ⟨r, 0, none⟩))).run P w' = .ok (.tuple #[kf x.1, vf x.2]) w' →
      wpList P ops Q rest (a.put o.dst (.tuple #[.bool true, kf x.1, vf x.2])) w') : wpList P ops Q (o :: rest) a w := by
  refine wpList_plain hg fun K' hK' => ?_
  unfold Oper.wp
  rcases h.next (P := P) o.type with ⟨h0, hrun⟩ | ⟨j, x, w', hx, hrun, hI, hM, hs, hen⟩
  · simp [execOp, hop, hit, hrun, Result.andThen]
    exact hK' _ _ (hDone h0)
  · simp [execOp, hop, hit, hrun, Result.andThen]
    exact hK' _ _ (hMore j x w' hx hI hM hs hen)
end
end Go.Burg
