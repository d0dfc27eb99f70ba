/- The purse's readers. -/
import Derived.Test.YtgdmfledhhoedaaPT1
import Derived.Test.YtgdmfledhhoedaaMaps
import Derived.WalkSpells
namespace Go.Proofs.Ytgdmfledhhoedaa
set_option maxRecDepth 8000
open Go.ChangeShapes Go.WideShapes Go.ChangeAt Go.RowKit Go.Burg

theorem none_no (b m : Nat) (mk mb hk hb kk kb last : Int) (w : World) (h : w.heap[b]? = some (PBlk mk mb hk hb kk kb last (some m))) :
    Calls Try.prog 37 #[.pointer (some ⟨b, 0, none⟩)] w fun e w' => e = .returned (.bool false) ∧ w = w' := by
  obtain ⟨c0, c1, c2, c3, c4, c5, c6, c7, cf, cl⟩ := pfacts h
  have qT : ∀ (w : World) (r : Option Nat), (binOp .eql 91 (.map r) (.map none)).run Try.prog w = .ok (.bool r.isNone) w := fun w r => run_eql_map_nil w _ _ _ r Try.underlying91
  go_enter Try.func37, Try.ntmps37
  go_wp2
  go_ret
  exact ⟨rfl, rfl⟩

theorem none_nil (w : World) :
    Calls Try.prog 37 #[.pointer none] w fun e w' => e = .returned (.bool true) ∧ w = w' := by
  have qT : ∀ (w : World) (r : Option Nat), (binOp .eql 91 (.map r) (.map none)).run Try.prog w = .ok (.bool r.isNone) w := fun w r => run_eql_map_nil w _ _ _ r Try.underlying91
  go_enter Try.func37, Try.ntmps37
  go_wp2
  go_ret
  exact ⟨rfl, rfl⟩

theorem none_yes (b : Nat) (mk mb hk hb kk kb last : Int) (w : World) (h : w.heap[b]? = some (PBlk mk mb hk hb kk kb last none)) :
    Calls Try.prog 37 #[.pointer (some ⟨b, 0, none⟩)] w fun e w' => e = .returned (.bool true) ∧ w = w' := by
  obtain ⟨c0, c1, c2, c3, c4, c5, c6, c7, cf, cl⟩ := pfacts h
  have qT : ∀ (w : World) (r : Option Nat), (binOp .eql 91 (.map r) (.map none)).run Try.prog w = .ok (.bool r.isNone) w := fun w r => run_eql_map_nil w _ _ _ r Try.underlying91
  go_enter Try.func37, Try.ntmps37
  go_wp2
  go_ret
  exact ⟨rfl, rfl⟩

theorem has_any (b m : Nat) (mk mb hk hb kk kb last : Int) (w : World) (h : w.heap[b]? = some (PBlk mk mb hk hb kk kb last (some m))) :
    Calls Try.prog 21 #[.pointer (some ⟨b, 0, none⟩)] w fun e w' => e = .returned (.agg #[.int .u64 hk, .int .u64 hb]) ∧ Below w.heap.size w w' := by
  have hA := blk_alloc (o' := (.cells #[.int .u64 0, .int .u64 0] 49)) h
  obtain ⟨c0, c1, c2, c3, c4, c5, c6, c7, cf, cl⟩ := pfacts h
  go_enter Try.func21, Try.ntmps21
  go_wp2_with (go_at_call 37; refine (none_no b m mk mb hk hb kk kb last _ hA).mono ?_; rintro e w' ⟨rfl, rfl⟩)
  refine bodyPost_ret (v := .agg #[_, _]) (by simp [results, Try.results21, go_sem]) rfl ⟨rfl, ?_⟩
  (repeat (first | exact Below.refl _ _ | assumption | refine Below.drew ?_ | refine Below.setCell ?_ (by simp) _ | refine Below.alloc ?_ (by first | exact Nat.le_refl _ | (simp; done) | (simp; omega)) _))

/-- An amount. -/
def lim (x : Int × Int) : Value := .agg #[.int .u64 x.1, .int .u64 x.2]
theorem keyInt : KeyOk Try.prog 3 (Value.int .i64) := KeyOk.int Try.underlying3
theorem zeroLim (w : World) : (zeroValue 49).run Try.prog w = .ok (lim (0, 0)) w := by kernel_rfl

theorem new_any (mk mb : Int) (w : World) :
    Calls Try.prog 27 #[.agg #[.int .u64 mk, .int .u64 mb]] w fun e w' => ∃ b m, e = .returned (.pointer (some ⟨b, 0, none⟩)) ∧ w'.heap[b]? = some (PBlk mk mb 0 0 0 0 0 (some m)) ∧ MapOf (Value.int .i64) lim w' m [] ∧ w.heap.size ≤ b ∧ w.heap.size ≤ m ∧ b ≠ m ∧ Below w.heap.size w w' := by
  have hmm := @run_makeMap Try.prog
  go_enter Try.func27, Try.ntmps27
  go_wp2
  go_ret
  refine ⟨w.heap.size + 1 + 1, w.heap.size + 1, rfl, ?_, ?_, by omega, by omega, by omega, ?_⟩
  · simpa [PBlk] using heap_new ((w.alloc (.cells #[.int .u64 mk, .int .u64 mb] 49)).alloc (.map #[] 0)) (PBlk mk mb 0 0 0 0 0 (some (w.heap.size + 1)))
  · have h0 := heap_new (w.alloc (.cells #[.int .u64 mk, .int .u64 mb] 49)) (.map #[] 0)
    refine MapOf.alloc ?_ _
    exact ⟨#[], 0, by simpa using h0, by simp, by simp, by simp⟩
  · (repeat (first | exact Below.refl _ _ | assumption | refine Below.drew ?_ | refine Below.setCell ?_ (by simp) _ | refine Below.alloc ?_ (by first | exact Nat.le_refl _ | (simp; done) | (simp; omega)) _))
end Go.Proofs.Ytgdmfledhhoedaa
