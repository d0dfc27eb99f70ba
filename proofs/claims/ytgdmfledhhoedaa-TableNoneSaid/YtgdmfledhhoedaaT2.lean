/- The table's handles: Right, Asks, Allows. -/
import Derived.Test.YtgdmfledhhoedaaT1
import Derived.Maps.OwnOps
namespace Go.Burg
open Go Go.RowKit
section
variable {α β : Type} {kf : α → Value} {vf : β → Value} {P : Program} {K E T : TypeId} {w : World} {m : Nat} {l : List (α × β)}
variable {ops : Array Oper} {rest : List Oper} {o : Oper} {a : Act} {Q : Exit → Act → World → Prop}
theorem wpList_insert_map [DecidableEq α] (hg : o.guard = none) (M X V : Operand) (T : TypeId) (hop : o.op = Op.insert T M X V) (KO : KeyOk P K kf)
    (hT : P.underlying T = some (.map K E)) (hM : a.eval M = .map (some m)) (k : α) (hX : a.eval X = kf k) (v : β) (hV : a.eval V = vf v) (h : MapOf kf vf w m l)
    (hK : ∀ w', MapOf kf vf w' m (setKV l k v) → Mod (· = m) w w' → wpList P ops Q rest (a.put o.dst undef) w') : wpList P ops Q (o :: rest) a w := by
  refine wpList_plain hg fun K' hK' => ?_
  obtain ⟨w', hrun, r1, r2⟩ := h.store KO hT k v
  unfold Oper.wp
  simp [execOp, hop, hM, hX, hV, hrun, Result.andThen]
  exact hK' _ _ (hK w' r1 r2)
end
end Go.Burg
namespace Go.Proofs.Ytgdmfledhhoedaa.T
set_option maxRecDepth 8000
open Go.ChangeShapes Go.WideShapes Go.ChangeAt Go.RowKit Go.Burg

theorem Right_any (tn gn rt : Int) (w : World) : Calls Try.prog 32 #[.agg #[.int .i64 tn, .int .u32 gn, .int .u8 rt]] w fun e w' => e = .returned (.bool (hRight tn gn rt)) ∧ Below w.heap.size w w' := by
  go_enter Try.func32, Try.ntmps32
  go_wp2_with (go_at_call 47; refine (right_any _ _ _ _).mono ?_; rintro e w2 ⟨rfl, hB2⟩)
  go_ret
  exact ⟨rfl, (Below.alloc (Below.refl _ _) (Nat.le_refl _) _).trans (hB2.mono (by simp))⟩

/-- What rights the deeds ask. -/
def asksL : List (Int × Int) := setKV (setKV (setKV (setKV (setKV (setKV [] 1 1) 6 1) 2 2) 3 2) 4 2) 5 4
def asksR (d : Int) : Int := (asksL.lookup d).getD 0
def asksIs (d : Int) : Bool := (asksL.lookup d).isSome

theorem asks_any (d : Int) (w : World) : Calls Try.prog 48 #[.int .i64 d] w fun e w' => e = .returned (.tuple #[.int .u8 (asksR d), .bool (asksIs d)]) ∧ Below w.heap.size w w' := by
  have hmm := @run_makeMap Try.prog
  have hM0 : MapOf (Value.int .i64) (Value.int .u8) (w.alloc (.map #[] 0)) w.heap.size [] := ⟨#[], 0, heap_new _ _, by simp, by simp, by simp⟩
  obtain ⟨W1, r1, M1, X1⟩ := hM0.store (P := Try.prog) (KeyOk.int Try.underlying27) Try.underlying132 1 1
  obtain ⟨W2, r2, M2, X2⟩ := M1.store (P := Try.prog) (KeyOk.int Try.underlying27) Try.underlying132 6 1
  obtain ⟨W3, r3, M3, X3⟩ := M2.store (P := Try.prog) (KeyOk.int Try.underlying27) Try.underlying132 2 2
  obtain ⟨W4, r4, M4, X4⟩ := M3.store (P := Try.prog) (KeyOk.int Try.underlying27) Try.underlying132 3 2
  obtain ⟨W5, r5, M5, X5⟩ := M4.store (P := Try.prog) (KeyOk.int Try.underlying27) Try.underlying132 4 2
  obtain ⟨W6, r6, M6, X6⟩ := M5.store (P := Try.prog) (KeyOk.int Try.underlying27) Try.underlying132 5 4
  have hz : ∀ w, (zeroValue 24).run Try.prog w = .ok (Value.int .u8 0) w := fun _ => by kernel_rfl
  have hL : (Instr.lookup 132 (.map (some w.heap.size)) (.int .i64 d) true).run Try.prog W6 = .ok (.tuple #[.int .u8 (asksR d), .bool (asksIs d)]) W6 := by
    have := M6.lookup (P := Try.prog) (KeyOk.int Try.underlying27) Try.underlying132 hz d true
    rw [this]
    unfold asksR asksIs asksL
    cases List.lookup d _ <;> rfl
  have hB : Hid (Below w.heap.size w W6) := hid (by
    have h0 : Below w.heap.size w (w.alloc (.map #[] 0)) := (Below.refl _ _).alloc (Nat.le_refl _) _
    have hX := ((((X1.trans X2 (fun _ _ h => h)).trans X3 (fun _ _ h => h)).trans X4 (fun _ _ h => h)).trans X5 (fun _ _ h => h)).trans X6 (fun _ _ h => h)
    exact h0.trans ⟨hX.os, hX.tape, hX.output, hX.size, fun k hk => hX.block k (by simp; omega) (by omega)⟩)
  clear hM0 M1 M2 M3 M4 M5 M6 X1 X2 X3 X4 X5 X6 hz
  go_enter Try.func48, Try.ntmps48
  go_wp2
  go_ret2
  refine ⟨rfl, ?_⟩
  have := hB.out
  (repeat (first | exact Below.refl _ _ | assumption | with_reducible refine Below.drew ?_ | with_reducible refine below_drewN ?_ | with_reducible refine Below.setCell ?_ (by first | (simp; done) | (simp; omega)) _ | with_reducible refine Below.alloc ?_ (by first | exact Nat.le_refl _ | (simp; done) | (simp; omega)) _))

/-- May a handle do a deed? -/
def hAllows (tn gn rt d : Int) : Bool := asksIs d && hRight tn gn rt && (bits .and .u8 rt (asksR d) == asksR d)
theorem allows_any (tn gn rt d : Int) (w : World) : Calls Try.prog 33 #[.agg #[.int .i64 tn, .int .u32 gn, .int .u8 rt], .int .i64 d] w fun e w' => e = .returned (.bool (hAllows tn gn rt d)) ∧ Below w.heap.size w w' := by
  have HA := hid (asks_any d)
  have HR := hid (Right_any tn gn rt)
  have HH := hid (hhas_any tn gn rt (asksR d))
  unfold hAllows
  generalize asksIs d = s at HA
  generalize asksR d = r at HA HH
  generalize hRight tn gn rt = t at HR
  generalize hv : (bits .and .u8 rt r == r) = v
  have HH' := hid (fun w => HH.out v hv w)
  clear HH hv
  have HN := hid (heap_new w (.cells #[.int .i64 tn, .int .u32 gn, .int .u8 rt] 26))
  cases s <;> cases t
  all_goals
    go_enter Try.func33, Try.ntmps33
    go_wp2_with (first | (go_at_call 48; refine (HA.out _).mono ?_; rintro e w1 ⟨rfl, hB1⟩; have hk := blk_below HN.out hB1 (by simp); have n0 := cell_of hk 0; have n1 := cell_of hk 1; have n2 := cell_of hk 2; have HN := hid hk; clear hk) | (go_at_call 32; refine (HR.out _).mono ?_; rintro e w2 ⟨rfl, hB2⟩; have hk := blk_below HN.out hB2 (lt_of_block HN.out); have m0 := cell_of hk 0; have m1 := cell_of hk 1; have m2 := cell_of hk 2; clear hk) | (go_at_call 49; refine (HH'.out _).mono ?_; rintro e w3 ⟨rfl, hB3⟩))
    go_ret
    refine ⟨rfl, ?_⟩
    have hb0 : Below w.heap.size w (w.alloc (.cells #[.int .i64 tn, .int .u32 gn, .int .u8 rt] 26)) := (Below.refl _ _).alloc (Nat.le_refl _) _
    have hb1 := below_chain hb0 hB1 (by simp)
    first | exact hb1 | (have hb2 := below_chain hb1 hB2 hb1.size; first | exact hb2 | exact below_chain hb2 hB3 hb2.size)
end Go.Proofs.Ytgdmfledhhoedaa.T
