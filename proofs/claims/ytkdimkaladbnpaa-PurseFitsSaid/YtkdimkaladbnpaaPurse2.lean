/- The purse's readers. -/
import Derived.Test.YtkdimkaladbnpaaPurse1
import Derived.Test.YtkdimkaladbnpaaMaps
import Derived.WalkSpells
namespace Go.Proofs.Ytkdimkaladbnpaa
open Go.ChangeShapes Go.WideShapes Go.ChangeAt Go.RowKit Go.Burg

theorem none_no (b m : Nat) (mk mb hk hb kk kb last : Int) (w : World) (h : w.heap[b]? = some (PBlk mk mb hk hb kk kb last (some m))) :
    Calls Try.prog 39 #[.pointer (some ⟨b, 0, none⟩)] w fun e w' => e = .returned (.bool false) ∧ w = w' := by
  obtain ⟨c0, c1, c2, c3, c4, c5, c6, c7, cf, cl⟩ := pfacts h
  have qT : ∀ (w : World) (r : Option Nat), (binOp .eql 52 (.map r) (.map none)).run Try.prog w = .ok (.bool r.isNone) w := fun w r => run_eql_map_nil w _ _ _ r Try.underlying52
  go_enter Try.func39, Try.ntmps39
  go_wp2
  go_ret
  exact ⟨rfl, rfl⟩

theorem none_nil (w : World) :
    Calls Try.prog 39 #[.pointer none] w fun e w' => e = .returned (.bool true) ∧ w = w' := by
  have qT : ∀ (w : World) (r : Option Nat), (binOp .eql 52 (.map r) (.map none)).run Try.prog w = .ok (.bool r.isNone) w := fun w r => run_eql_map_nil w _ _ _ r Try.underlying52
  go_enter Try.func39, Try.ntmps39
  go_wp2
  go_ret
  exact ⟨rfl, rfl⟩

theorem none_yes (b : Nat) (mk mb hk hb kk kb last : Int) (w : World) (h : w.heap[b]? = some (PBlk mk mb hk hb kk kb last none)) :
    Calls Try.prog 39 #[.pointer (some ⟨b, 0, none⟩)] w fun e w' => e = .returned (.bool true) ∧ w = w' := by
  obtain ⟨c0, c1, c2, c3, c4, c5, c6, c7, cf, cl⟩ := pfacts h
  have qT : ∀ (w : World) (r : Option Nat), (binOp .eql 52 (.map r) (.map none)).run Try.prog w = .ok (.bool r.isNone) w := fun w r => run_eql_map_nil w _ _ _ r Try.underlying52
  go_enter Try.func39, Try.ntmps39
  go_wp2
  go_ret
  exact ⟨rfl, rfl⟩

theorem has_any (b m : Nat) (mk mb hk hb kk kb last : Int) (w : World) (h : w.heap[b]? = some (PBlk mk mb hk hb kk kb last (some m))) :
    Calls Try.prog 17 #[.pointer (some ⟨b, 0, none⟩)] w fun e w' => e = .returned (.agg #[.int .u64 hk, .int .u64 hb]) ∧ Below w.heap.size w w' := by
  have hA := blk_alloc (o' := (.cells #[.int .u64 0, .int .u64 0] 24)) h
  obtain ⟨c0, c1, c2, c3, c4, c5, c6, c7, cf, cl⟩ := pfacts h
  go_enter Try.func17, Try.ntmps17
  go_wp2_with (go_at_call 39; refine (none_no b m mk mb hk hb kk kb last _ hA).mono ?_; rintro e w' ⟨rfl, rfl⟩)
  refine bodyPost_ret (v := .agg #[_, _]) (by simp [results, Try.results17, go_sem]) rfl ⟨rfl, ?_⟩
  (repeat (first | exact Below.refl _ _ | assumption | refine Below.drew ?_ | refine Below.setCell ?_ (by simp) _ | refine Below.alloc ?_ (by first | exact Nat.le_refl _ | (simp; done) | (simp; omega)) _))

theorem bound2_any (b m : Nat) (mk mb hk hb kk kb last : Int) (w : World) (h : w.heap[b]? = some (PBlk mk mb hk hb kk kb last (some m))) :
    Calls Try.prog 18 #[.pointer (some ⟨b, 0, none⟩)] w fun e w' => e = .returned (.agg #[.int .u64 (IntKind.u64.wrap (hk + kk)), .int .u64 (IntKind.u64.wrap (hb + kb))]) ∧ Below w.heap.size w w' := by
  have hA := blk_alloc (o' := (.cells #[.int .u64 0, .int .u64 0] 24)) h
  have hN := heap_new w (.cells #[.int .u64 0, .int .u64 0] 24)
  obtain ⟨c0, c1, c2, c3, c4, c5, c6, c7, cf, cl⟩ := pfacts h
  go_enter Try.func18, Try.ntmps18
  go_wp2_with (first | (go_at_call 39; refine (none_no b m mk mb hk hb kk kb last _ hA).mono ?_; rintro e w' ⟨rfl, rfl⟩) | (go_at_call 40; refine (bound_any b mk mb hk hb kk kb last (some m) _ hA).mono ?_; rintro e w1 ⟨rfl, hb1⟩; have hr := blk_below hN hb1 (by simp); have r0 := cell_of hr 0; have r1 := cell_of hr 1; have rf := free_of hr))
  refine bodyPost_ret (v := .agg #[_, _]) (by simp [results, Try.results18, go_sem, r0, r1]) rfl ⟨rfl, ?_⟩
  exact (((Below.refl _ _).alloc (Nat.le_refl _) _).trans (hb1.mono (by simp))).setCell (Nat.le_refl _) _ |>.setCell (Nat.le_refl _) _

theorem left2_any (b m : Nat) (mk mb hk hb kk kb last : Int) (w : World) (h : w.heap[b]? = some (PBlk mk mb hk hb kk kb last (some m))) :
    Calls Try.prog 20 #[.pointer (some ⟨b, 0, none⟩)] w fun e w' => e = .returned (.agg #[.int .u64 (IntKind.u64.wrap (mk - IntKind.u64.wrap (hk + kk))), .int .u64 (IntKind.u64.wrap (mb - IntKind.u64.wrap (hb + kb)))]) ∧ Below w.heap.size w w' := by
  have hA := blk_alloc (o' := (.cells #[.int .u64 0, .int .u64 0] 24)) h
  have hN := heap_new w (.cells #[.int .u64 0, .int .u64 0] 24)
  obtain ⟨c0, c1, c2, c3, c4, c5, c6, c7, cf, cl⟩ := pfacts h
  go_enter Try.func20, Try.ntmps20
  go_wp2_with (first | (go_at_call 39; refine (none_no b m mk mb hk hb kk kb last _ hA).mono ?_; rintro e w' ⟨rfl, rfl⟩) | (go_at_call 27; refine (left_any b mk mb hk hb kk kb last (some m) _ hA).mono ?_; rintro e w1 ⟨rfl, hb1⟩; have hr := blk_below hN hb1 (by simp); have r0 := cell_of hr 0; have r1 := cell_of hr 1; have rf := free_of hr))
  refine bodyPost_ret (v := .agg #[_, _]) (by simp [results, Try.results20, go_sem, r0, r1]) rfl ⟨rfl, ?_⟩
  exact (((Below.refl _ _).alloc (Nat.le_refl _) _).trans (hb1.mono (by simp))).setCell (Nat.le_refl _) _ |>.setCell (Nat.le_refl _) _

/-- An amount. -/
def lim (x : Int × Int) : Value := .agg #[.int .u64 x.1, .int .u64 x.2]
theorem keyInt : KeyOk Try.prog 3 (Value.int .i64) := KeyOk.int Try.underlying3
theorem zeroLim (w : World) : (zeroValue 24).run Try.prog w = .ok (lim (0, 0)) w := by kernel_rfl

theorem open_any (b m : Nat) (mk mb hk hb kk kb last : Int) (l : List (Int × Int × Int)) (w : World) (h : w.heap[b]? = some (PBlk mk mb hk hb kk kb last (some m))) (hm : MapOf (Value.int .i64) lim w m l) :
    Calls Try.prog 19 #[.pointer (some ⟨b, 0, none⟩)] w fun e w' => e = .returned (.int .i64 l.length) ∧ w = w' := by
  obtain ⟨c0, c1, c2, c3, c4, c5, c6, c7, cf, cl⟩ := pfacts h
  go_enter Try.func19, Try.ntmps19
  go_wp2_with (first | (go_at_call 39; refine (none_no b m mk mb hk hb kk kb last _ h).mono ?_; rintro e w' ⟨rfl, rfl⟩) | (at_len; refine wpList_len_map rfl _ _ rfl Try.underlying52 rfl hm ?_))
  go_ret
  exact ⟨rfl, rfl⟩

theorem new_any (mk mb : Int) (w : World) :
    Calls Try.prog 10 #[.agg #[.int .u64 mk, .int .u64 mb]] w fun e w' => ∃ b m, e = .returned (.pointer (some ⟨b, 0, none⟩)) ∧ w'.heap[b]? = some (PBlk mk mb 0 0 0 0 0 (some m)) ∧ MapOf (Value.int .i64) lim w' m [] ∧ w.heap.size ≤ b ∧ w.heap.size ≤ m ∧ b ≠ m ∧ Below w.heap.size w w' := by
  have hmm := @run_makeMap Try.prog
  go_enter Try.func10, Try.ntmps10
  go_wp2
  go_ret
  refine ⟨w.heap.size + 1 + 1, w.heap.size + 1, rfl, ?_, ?_, by omega, by omega, by omega, ?_⟩
  · simpa [PBlk] using heap_new ((w.alloc (.cells #[.int .u64 mk, .int .u64 mb] 24)).alloc (.map #[] 0)) (PBlk mk mb 0 0 0 0 0 (some (w.heap.size + 1)))
  · have h0 := heap_new (w.alloc (.cells #[.int .u64 mk, .int .u64 mb] 24)) (.map #[] 0)
    refine MapOf.alloc ?_ _
    exact ⟨#[], 0, by simpa using h0, by simp, by simp, by simp⟩
  · (repeat (first | exact Below.refl _ _ | assumption | refine Below.drew ?_ | refine Below.setCell ?_ (by simp) _ | refine Below.alloc ?_ (by first | exact Nat.le_refl _ | (simp; done) | (simp; omega)) _))
end Go.Proofs.Ytkdimkaladbnpaa
