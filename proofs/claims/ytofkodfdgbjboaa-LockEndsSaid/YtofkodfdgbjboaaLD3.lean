/- The law's does: the deed that copies; any deed. -/
import Derived.Test.YtofkodfdgbjboaaLD2
namespace Go.Proofs.Ytofkodfdgbjboaa
open Go.ChangeShapes Go.WideShapes Go.ChangeAt Go.RowKit Go.Burg
open Go.Burg.Lk
/-- Another Ref. -/
def farK : RefK := ⟨(4000, 9), by decide⟩
section
variable {w : World} {b m p : Nat} {rv wv : Value} {l : List (RefK × Wd)} {t : Int}
set_option maxHeartbeats 1000000 in
theorem does_7 (h : LocksAt w b m l t) (hr : RAt w p rv wv l t) (d : LDeed) (hn : l.length ≤ 1000) (h0 : 0 ≤ t) (h1 : t ≤ 1000) (hp : d.what % 8 = 7) : Calls Try.prog 21 #[.pointer (some ⟨b, 0, none⟩), .pointer (some ⟨p, 0, none⟩), .agg #[.int .i64 d.what, .int .i64 d.ref.1.1, .int .u32 d.ref.1.2, .int .u64 d.w.1]] w fun e w' => Left w b m p rv wv l t e w' := by
  have hB : Both w b m p w.heap.size d rv wv rv wv l t l t (w.alloc (.cells #[.int .i64 d.what, .int .i64 d.ref.1.1, .int .u32 d.ref.1.2, .int .u64 d.w.1] 38)) := ⟨h.alloc _, hr.alloc _, heap_new _ _, (Mod.refl _ w).alloc _, fun g hg => .inl hg, fun g hg => .inl hg⟩
  have hlt := h.lt
  have HP := hid hp
  clear hp h hr
  have hx := hB.cell
  have x0 := cell_of hx 0
  have x1 := cell_of hx 1
  have x2 := cell_of hx 2
  have x3 := cell_of hx 3
  clear hx
  go_enter Try.func21, Try.ntmps21
  go_wp2_with (go_at_call 12; refine (pick_any d.what 8 7 _ (by decide) (by decide) HP.out).mono ?_; rintro e wp ⟨rfl, rfl⟩)
  clear x0 x1 x2 x3
  refine (copy_at hB.lk).mono ?_
  rintro e w1 ⟨b2, m2, rfl, hC, hb2, hm2, hB1⟩
  replace hB := hB.keep hB1
  have hz : (w.alloc (.cells #[.int .i64 d.what, .int .i64 d.ref.1.1, .int .u32 d.ref.1.2, .int .u64 d.w.1] 38)).heap.size = w.heap.size + 1 := by simp
  rw [hz] at hb2 hm2
  clear hB1 hz
  have x0 := cell_of hB.cell 0
  have x1 := cell_of hB.cell 1
  have x2 := cell_of hB.cell 2
  have x3 := cell_of hB.cell 3
  go_wp2_with fail
  clear x0 x1 x2 x3
  refine (add_at' hB.lk farK).mono ?_
  rintro e w2 ⟨rfl, hL, hX⟩
  replace hC := hC.mod hX (fun e => by rcases e with e | e <;> omega) (fun e => by rcases e with e | e <;> omega)
  replace hB := hB.a hL hX
  clear hL hX
  generalize (addL l farK).1 = e1
  generalize (addL l farK).2 = l1 at hB
  have x0 := cell_of hB.cell 0
  have x1 := cell_of hB.cell 1
  have x2 := cell_of hB.cell 2
  have x3 := cell_of hB.cell 3
  go_wp2_with fail
  clear x0 x1 x2 x3
  have R := begin_at hB.lk d.ref
  rw [beg_word] at R
  generalize (lkp l1 d.ref).getD w0 = y at R
  generalize (beg l1 d.ref).2 = s at R
  refine R.mono ?_
  clear R
  rintro e w3 ⟨rfl, hB1⟩
  replace hB := hB.keep hB1
  replace hC := hC.keep hB1
  clear hB1
  have x0 := cell_of hB.cell 0
  have x1 := cell_of hB.cell 1
  have x2 := cell_of hB.cell 2
  have x3 := cell_of hB.cell 3
  go_wp2_with fail
  clear x0 x1 x2 x3
  refine (lock_at0 hB.lk d.ref y (by omega) h0).mono ?_
  rintro e w4 ⟨rfl, hL, hX⟩
  replace hC := hC.mod hX (fun e => by rcases e with e | e <;> omega) (fun e => by rcases e with e | e <;> omega)
  replace hB := hB.a hL hX
  clear hL hX
  generalize (if (lockL l1 d.ref y).1 = true then t + 1 else t) = t2 at hB
  generalize (lockL l1 d.ref y).1 = e2
  generalize (lockL l1 d.ref y).2 = l2 at hB
  have x0 := cell_of hB.cell 0
  have x1 := cell_of hB.cell 1
  have x2 := cell_of hB.cell 2
  have x3 := cell_of hB.cell 3
  go_wp2_with fail
  clear x0 x1 x2 x3
  refine (done_at hB.lk d.ref).mono ?_
  rintro e w5 ⟨rfl, hL, hX⟩
  replace hC := hC.mod hX (fun e => by rcases e with e | e <;> omega) (fun e => by rcases e with e | e <;> omega)
  replace hB := hB.a hL hX
  clear hL hX
  generalize (turnL l2 d.ref Wd.done).1 = e3
  generalize (turnL l2 d.ref Wd.done).2 = l3 at hB
  have x0 := cell_of hB.cell 0
  have x1 := cell_of hB.cell 1
  have x2 := cell_of hB.cell 2
  have x3 := cell_of hB.cell 3
  go_wp2_with fail
  clear x0 x1 x2 x3
  refine (gone_at' hB.lk d.ref).mono ?_
  rintro e w6 ⟨rfl, hL, hX⟩
  replace hC := hC.mod hX (fun e => by rcases e with e | e <;> omega) (fun e => by rcases e with e | e <;> omega)
  replace hB := hB.a hL hX
  clear hL hX
  generalize (goneL l3 d.ref).1 = e4
  generalize (goneL l3 d.ref).2 = l4 at hB
  have HB := hid hB
  have HC := hid hC
  clear hB hC
  go_wp2_with fail
  go_ret2
  exact ⟨b2, m2, rv, wv, l, t, rfl, HC.out, HB.out.rf, HB.out.mod, .inr ⟨by omega, by omega⟩, HB.out.nr, HB.out.nw, by omega, by omega, by omega⟩

/-- Any deed. -/
theorem does_any (h : LocksAt w b m l t) (hr : RAt w p rv wv l t) (d : LDeed) (hn : l.length ≤ 1000) (h0 : 0 ≤ t) (h1 : t ≤ 1000) : Calls Try.prog 21 #[.pointer (some ⟨b, 0, none⟩), .pointer (some ⟨p, 0, none⟩), .agg #[.int .i64 d.what, .int .i64 d.ref.1.1, .int .u32 d.ref.1.2, .int .u64 d.w.1]] w fun e w' => Left w b m p rv wv l t e w' := by
  have hp : d.what % 8 = 0 ∨ d.what % 8 = 1 ∨ d.what % 8 = 2 ∨ d.what % 8 = 3 ∨ d.what % 8 = 4 ∨ d.what % 8 = 5 ∨ d.what % 8 = 6 ∨ d.what % 8 = 7 := by omega
  rcases hp with hp | hp | hp | hp | hp | hp | hp | hp
  · exact does_0 h hr d hn h0 h1 hp
  · exact does_1 h hr d hn h0 h1 hp
  · exact does_2 h hr d hn h0 h1 hp
  · exact does_3 h hr d hn h0 h1 hp
  · exact does_4 h hr d hn h0 h1 hp
  · exact does_5 h hr d hn h0 h1 hp
  · exact does_6 h hr d hn h0 h1 hp
  · exact does_7 h hr d hn h0 h1 hp
end
end Go.Proofs.Ytofkodfdgbjboaa
