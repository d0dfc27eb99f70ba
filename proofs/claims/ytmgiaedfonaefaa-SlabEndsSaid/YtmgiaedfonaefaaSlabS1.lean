/- The slab's small functions (string). -/
import Derived.Test.YtmgiaedfonaefaaSlab
import Derived.Deep.QuietTactic
namespace Go.Proofs.Ytmgiaedfonaefaa.S
open Go.ChangeShapes Go.WideShapes Go.ChangeAt Go.RowKit Go.Burg

theorem there_any {b g : Nat} {l : List (Cel ByteArray)} (w : World) (h : SlabAt (fun x : ByteArray => (.string x)) 93 90 w b g l) :
    Calls Try.prog 44 #[.pointer (some ⟨b, 0, none⟩)] w fun e w' => e = .returned (.bool true) ∧ Below w.heap.size w w' := by
  obtain ⟨c0, f0⟩ := h.head
  have hp := h.pos
  have ht := h.top
  go_enter Try.func44, Try.ntmps44
  go_wp2
  go_ret
  exact ⟨by simp; exact hp, Below.refl _ _⟩

theorem room_any (is : Bool) (x : ByteArray) (gen : Int) (w : World) :
    Calls Try.prog 46 #[.agg #[.bool is, (.string x), .int .u32 gen]] w fun e w' => e = .returned (.bool (!is && decide (gen < 4294967295))) ∧ Below w.heap.size w w' := by
  cases is <;> by_cases hg : gen < 4294967295
  all_goals
    simp only [hg, decide_true, decide_false, Bool.not_true, Bool.not_false, Bool.and_true, Bool.and_false]
    go_enter Try.func46, Try.ntmps46
    go_wp2
    go_ret
    exact ⟨rfl, by (repeat (first | exact Below.refl _ _ | assumption | refine Below.drew ?_ | refine Below.setCell ?_ (by simp) _ | refine Below.alloc ?_ (by first | exact Nat.le_refl _ | (simp; done) | (simp; omega)) _))⟩

theorem free1_any {g i : Nat} {l : List (Cel ByteArray)} {c : Cel ByteArray} (w : World) (h : CellsAt (fun x : ByteArray => (.string x)) 93 w g l) (hi : l[i]? = some c) :
    Calls Try.prog 48 #[.pointer (some ⟨g, i * 3, none⟩)] w fun e w' => e = .returned (.tuple #[]) ∧ CellsAt (fun x : ByteArray => (.string x)) 93 w' g (l.set i ⟨false, (⟨#[]⟩ : ByteArray), c.gen⟩) ∧ Mod (· = g) w w' := by
  obtain ⟨c0, c1, c2, cf, g1, g2⟩ := h.cell hi
  have HP := hid (h.put3 hi false (⟨#[]⟩ : ByteArray) c.gen ⟨g1, g2⟩)
  go_enter Try.func48, Try.ntmps48
  go_wp2
  go_end0
  refine ⟨rfl, HP.out, ?_⟩
  exact Mod.setCell (S := (· = g)) (p := ⟨g, i * 3 + 2, none⟩) (Mod.setCell (S := (· = g)) (p := ⟨g, i * 3 + 1, none⟩) (Mod.setCell (S := (· = g)) (p := ⟨g, i * 3, none⟩) (Mod.refl _ _) (.inl rfl) _) (.inl rfl) _) (.inl rfl) _


theorem at_in {b g i : Nat} {l : List (Cel ByteArray)} {c : Cel ByteArray} (gen : Int) (w : World) (h : SlabAt (fun x : ByteArray => (.string x)) 93 90 w b g l) (hi : l[i]? = some c) (r : Bool) (hr : (c.is && decide (c.gen = gen)) = r) :
    Calls Try.prog 49 #[.pointer (some ⟨b, 0, none⟩), .agg #[.int .i64 i, .int .u32 gen]] w fun e w' => e = .returned (.tuple #[.pointer (some ⟨g, i * 3, none⟩), .bool r]) ∧ Below w.heap.size w w' := by
  have hil : i < l.length := (List.getElem?_eq_some_iff.1 hi).1
  have hN := heap_new w (.cells #[.int .i64 i, .int .u32 gen] 31)
  have hA := h.alloc (.cells #[.int .i64 i, .int .u32 gen] 31)
  have hp := h.pos
  have ht := h.top
  have hd1 : decide (l.length ≤ i) = false := by simp; exact hil
  have hd2 : decide ((i : Int) < 0) = false := by simp
  have hd3 : decide ((l.length : Int) ≤ (i : Int)) = false := by simp; omega
  obtain ⟨is, x, gn⟩ := c
  obtain ⟨s0, sf⟩ := hA.head
  have n0 := cell_of hN 0
  have n1 := cell_of hN 1
  obtain ⟨c0, c1, c2, cf, _, _⟩ := hA.hc.cell hi
  have HR := hid hr
  have HB : Hid (Below w.heap.size w (w.alloc (.cells #[.int .i64 i, .int .u32 gen] 31))) := hid ((Below.refl _ _).alloc (Nat.le_refl _) _)
  generalize hW : w.alloc (.cells #[.int .i64 i, .int .u32 gen] 31) = W at *
  have HW := hid hW
  have hne : w.heap.size ≠ b := by have := h.blt; omega
  clear hr hW
  go_enter Try.func49, Try.ntmps49
  go_wp2_with fail
  rw [HW.out]
  go_quiet (fail)
  go_wp2_with fail
  go_quiet (fail)
  go_wp2_with fail
  cases is
  all_goals
    go_quiet (fail)
    go_wp2
    go_ret2
    refine ⟨?_, below_drewN (below_drewN (below_drewN HB.out))⟩
    have := HR.out
    subst this
    simp
    try rfl

/-- Where no such place is. -/
theorem at_out {b g : Nat} {l : List (Cel ByteArray)} (slot gen : Int) (w : World) (h : SlabAt (fun x : ByteArray => (.string x)) 93 90 w b g l) (ho : slot < 0 ∨ (l.length : Int) ≤ slot) :
    Calls Try.prog 49 #[.pointer (some ⟨b, 0, none⟩), .agg #[.int .i64 slot, .int .u32 gen]] w fun e w' => e = .returned (.tuple #[.pointer none, .bool false]) ∧ Below w.heap.size w w' := by
  have hN := heap_new w (.cells #[.int .i64 slot, .int .u32 gen] 31)
  have hA := h.alloc (.cells #[.int .i64 slot, .int .u32 gen] 31)
  have hp := h.pos
  have ht := h.top
  obtain ⟨s0, sf⟩ := hA.head
  have n0 := cell_of hN 0
  have n1 := cell_of hN 1
  have HB : Hid (Below w.heap.size w (w.alloc (.cells #[.int .i64 slot, .int .u32 gen] 31))) := hid ((Below.refl _ _).alloc (Nat.le_refl _) _)
  generalize hW : w.alloc (.cells #[.int .i64 slot, .int .u32 gen] 31) = W at *
  have HW := hid hW
  have hne : w.heap.size ≠ b := by have := h.blt; omega
  clear hW
  by_cases h0 : slot < 0
  · have hd2 : decide (slot < 0) = true := by simp; exact h0
    clear ho
    go_enter Try.func49, Try.ntmps49
    go_wp2_with fail
    rw [HW.out]
    go_quiet (fail)
    go_wp2
    go_ret2
    exact ⟨rfl, below_drewN HB.out⟩
  · have hd2 : decide (slot < 0) = false := by simp; omega
    have hle : (l.length : Int) ≤ slot := by omega
    have hd3 : decide ((l.length : Int) ≤ slot) = true := by simp; omega
    clear ho
    go_enter Try.func49, Try.ntmps49
    go_wp2_with fail
    rw [HW.out]
    go_quiet (fail)
    go_wp2
    go_ret2
    exact ⟨rfl, below_drewN HB.out⟩

/-- The place that a Ref names, if it is live. -/
def Live (l : List (Cel ByteArray)) (slot gen : Int) (i : Nat) (c : Cel ByteArray) : Prop := slot = i ∧ l[i]? = some c ∧ c.is = true ∧ c.gen = gen

theorem at_live {b g i : Nat} {l : List (Cel ByteArray)} {c : Cel ByteArray} (slot gen : Int) (w : World) (h : SlabAt (fun x : ByteArray => (.string x)) 93 90 w b g l) (hL : Live l slot gen i c) :
    Calls Try.prog 49 #[.pointer (some ⟨b, 0, none⟩), .agg #[.int .i64 slot, .int .u32 gen]] w fun e w' => e = .returned (.tuple #[.pointer (some ⟨g, i * 3, none⟩), .bool true]) ∧ Below w.heap.size w w' := by
  obtain ⟨rfl, h2, h3, h4⟩ := hL
  exact at_in gen w h h2 true (by simp [h3, h4])

theorem at_dead {b g : Nat} {l : List (Cel ByteArray)} (slot gen : Int) (hd : ∀ i c, ¬ Live l slot gen i c) : ∃ p, ∀ (w : World), SlabAt (fun x : ByteArray => (.string x)) 93 90 w b g l →
    Calls Try.prog 49 #[.pointer (some ⟨b, 0, none⟩), .agg #[.int .i64 slot, .int .u32 gen]] w fun e w' => e = .returned (.tuple #[.pointer p, .bool false]) ∧ Below w.heap.size w w' := by
  by_cases ho : slot < 0 ∨ (l.length : Int) ≤ slot
  · exact ⟨_, fun w h => at_out slot gen w h ho⟩
  · obtain ⟨i, rfl⟩ : ∃ i : Nat, slot = i := ⟨slot.toNat, by omega⟩
    have hil : i < l.length := by omega
    refine ⟨_, fun w h => at_in gen w h (List.getElem?_eq_getElem hil) false ?_⟩
    have := hd i l[i]
    simp only [Live, List.getElem?_eq_getElem hil, true_and] at this
    cases h1 : l[i].is <;> by_cases h2 : l[i].gen = gen <;> simp_all

end Go.Proofs.Ytmgiaedfonaefaa.S
