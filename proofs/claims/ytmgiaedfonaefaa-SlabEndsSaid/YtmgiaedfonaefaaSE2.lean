/- none: the checks of a slab that does not exist. -/
import Derived.Test.YtmgiaedfonaefaaSE1
namespace Go.Burg
open Go Go.RowKit
/-- From the head of a round on. -/
def LoopFrom (P : Program) (c : Code) (Q : Exit → Act → World → Prop) (a : Act) (w : World) : Prop :=
  ∀ (b : Frame) (k : List Item) (cs : List Frame), ∃ e a' w', Q e a' w' ∧ Arrives P (lone (b.at a (.code c :: .inLoop c :: k)) cs w) b k cs e a' w'
theorem wp_loop_from {P : Program} {c : Code} {Q : Exit → Act → World → Prop} {a : Act} {w : World} (h : LoopFrom P c Q a w) : (Code.loop c).wp P Q a w := fun b k cs => by
  obtain ⟨e, a', w', hq, harr⟩ := h b k cs
  exact ⟨e, a', w', hq, .of_steps (.one step_loop) harr⟩
theorem loop_round {P : Program} {c : Code} {Q : Exit → Act → World → Prop} {a : Act} {w : World} (h : ∀ K : Act → World → Prop, (∀ a w, LoopFrom P c Q a w → K a w) → c.wp P (Exit.then K Q) a w) : LoopFrom P c Q a w := fun b k cs => by
  obtain ⟨e, a₁, w₁, hq, harr⟩ := h _ (fun _ _ h => h) b (.inLoop c :: k) cs
  cases e with
  | normal =>
    obtain ⟨e₂, a₂, w₂, hq₂, harr₂⟩ := hq b k cs
    exact ⟨e₂, a₂, w₂, hq₂, .of_steps (Steps.trans harr (.one step_inLoop)) harr₂⟩
  | exit id => exact ⟨_, a₁, w₁, hq, .pass (x := .inLoop c) rfl (fun _ _ => .inl (by simp)) harr⟩
  | goto l => exact ⟨_, a₁, w₁, hq, .pass (x := .inLoop c) rfl (fun _ _ => .inl (by simp)) harr⟩
  | ret => exact ⟨_, a₁, w₁, hq, .pass (x := .inLoop c) rfl (fun _ _ => .inl (by simp)) harr⟩
  | panic ch => exact ⟨_, a₁, w₁, hq, .pass (x := .inLoop c) rfl (fun _ _ => .inl (by simp)) harr⟩
  | outgrown => exact ⟨_, a₁, w₁, hq, .pass (x := .inLoop c) rfl (fun _ _ => .inl (by simp)) harr⟩
end Go.Burg
namespace Go.Proofs.Ytmgiaedfonaefaa.Z
open Go.ChangeShapes Go.WideShapes Go.ChangeAt Go.RowKit Go.Burg Go.Shelf
open Go.Proofs.Ytmgiaedfonaefaa.C (KpC encs abides_below Lv kept_cells keeps_mod)
attribute [local go_sem] Oper.semAt_some

/-- What stands in none: the result's cell, the two slabs, the marks of loops that are over. -/
structure NI (w : World) (ms : List Nat) (W : World) : Prop where
  k0 : W.heap[w.heap.size]? = some (.cells #[.bool false] 4)
  k1 : W.heap[w.heap.size + 1]? = some (.cells #[.slice none 0 0] 66)
  k2 : W.heap[w.heap.size + 2]? = some (.cells #[.pointer none, .pointer (some ⟨w.heap.size + 1, 0, none⟩)] 23)
  marks : ∀ d ∈ ms, W.heap[d]? = some (.deferred (some []))
  bel : Below w.heap.size w W
section
variable {w W W' : World} {ms : List Nat}
theorem NI.below (h : NI w ms W) (k : Below W.heap.size W W') : NI w ms W' :=
  ⟨blk_below h.k0 k (lt_of_block h.k0), blk_below h.k1 k (lt_of_block h.k1), blk_below h.k2 k (lt_of_block h.k2), fun d hd => blk_below (h.marks d hd) k (lt_of_block (h.marks d hd)), h.bel.trans (k.mono h.bel.size)⟩
theorem NI.kept (h : NI w ms W) {row : Option Nat} (hg : W.grownBy W' row) {base : Nat} (hb : w.heap.size ≤ base) (hm : ∀ d ∈ ms, d < base) (hr : ∀ r, row = some r → base ≤ r ∧ ∃ o : Obj, W.heap[r]? = some o ∧ o.isCells = false) : NI w ms W' :=
  ⟨kept_cells hg hr h.k0 rfl, kept_cells hg hr h.k1 rfl, kept_cells hg hr h.k2 rfl, fun d hd => (hg.block d (lt_of_block (h.marks d hd)) (fun e => by have := (hr d e.symm).1; have := hm d hd; omega)).trans (h.marks d hd), h.bel.grown hg h.bel.size (fun k e => Nat.le_trans hb (hr k e).1)⟩
theorem NI.no1 (_ : NI w ms W) : NoSlab W (.pointer none) := .inl rfl
theorem NI.no2 (h : NI w ms W) : NoSlab W (.pointer (some ⟨w.heap.size + 1, 0, none⟩)) := .inr ⟨_, rfl, h.k1⟩
theorem NI.lt (h : NI w ms W) : ∀ d ∈ ms, d < W.heap.size := fun d hd => lt_of_block (h.marks d hd)
end


set_option maxRecDepth 100000 in
set_option maxHeartbeats 8000000 in
theorem none_any (w : World) : Calls Try.prog 21 #[] w fun e w' => e = .returned (.bool true) ∧ Below w.heap.size w w' := by
  have hN : NI w [] (((w.alloc (.cells #[.bool false] 4)).alloc (.cells #[.slice none 0 0] 66)).alloc (.cells #[.pointer none, .pointer (some ⟨w.heap.size + 1, 0, none⟩)] 23)) := by
    refine ⟨blk_alloc (blk_alloc (heap_new _ _)), blk_alloc ?_, ?_, (fun d hd => by simp at hd), (((Below.refl _ _).alloc (Nat.le_refl _) _).alloc (by simp) _).alloc (by simp; omega) _⟩
    · have := heap_new (w.alloc (.cells #[.bool false] 4)) (.cells #[.slice none 0 0] 66)
      simpa using this
    · have := heap_new ((w.alloc (.cells #[.bool false] 4)).alloc (.cells #[.slice none 0 0] 66)) (.cells #[.pointer none, .pointer (some ⟨w.heap.size + 1, 0, none⟩)] 23)
      simpa using this
  refine (callsIn_wide (n := 8)).1 ?_
  refine callsIn_of_wp_marks Try.func21 rfl trivial ?_ rfl
  refine wpIn_wide.2 ?_
  simp only [Try.ntmps21, List.size_toArray, List.length_nil, Nat.reduceSub, Array.replicate_succ, Array.replicate_zero, List.push_toArray, List.append_toArray, List.nil_append]
  go_wp2_with fail
  generalize (((w.alloc (.cells #[.bool false] 4)).alloc (.cells #[.slice none 0 0] 66)).alloc (.cells #[.pointer none, .pointer (some ⟨w.heap.size + 1, 0, none⟩)] 23)) = W0 at *
  have HN := hid hN
  clear hN
  refine wp_loop_from (loop_round fun K1 hK1 => ?_)
  have q0 := cell_of HN.out.k2 0
  have q1 := cell_of HN.out.k2 1
  go_wp2_with fail
  refine (take_no 1 _ HN.out.no1).mono ?_
  rintro e wa ⟨rfl, hb⟩
  have HA := hid (HN.out.below hb)
  have HA2 := hid (HA.out.below ((Below.refl _ _).alloc (Nat.le_refl _) (.cells #[.int .i64 0, .int .u32 0] 31)))
  have HR := hid (heap_new wa (.cells #[.int .i64 0, .int .u32 0] 31))
  clear hb q0 q1
  go_wp2_with fail
  refine (get_no 0 1 _ HA2.out.no1).mono ?_
  rintro e wb ⟨rfl, hb⟩
  have HB := hid (HA2.out.below hb)
  have HRB := hid (blk_below HR.out hb (lt_of_block HR.out))
  clear hb HA HA2 HR
  go_wp2_with fail
  refine (all_no _).mono ?_
  rintro e wc ⟨rfl, rfl⟩
  have HC := hid (HB.out.below ((Below.refl _ _).alloc (Nat.le_refl _) (.cells #[.pointer none] 23)))
  have HRC := hid (blk_alloc (o' := (.cells #[.pointer none] 23)) HRB.out)
  have HKB := hid (heap_new wb (.cells #[.pointer none] 23))
  clear HB HRB
  go_wp2_with fail
  generalize wb.alloc (.cells #[.pointer none] 23) = Wl at *
  refine wpIn_wide.1 (wpIn_rangeFunc_ownH (n := 8) (gf := 42) (lb := #[.pointer (some ⟨wb.heap.size, 0, none⟩)]) rfl (by decide) rfl trivial (enters_of Try.func42 (by kernel_rfl) rfl) (all_stops 7 wb.heap.size Wl HKB.out HC.out.no1) KpC.trans (fun W L o o' _ h ho _ => KpC.put W L o o' h ho) (Below.refl _ _) (fun _ => rfl) (fun _ W => NI w [] W ∧ W.heap[wa.heap.size]? = some (.cells #[.int .i64 0, .int .u32 0] 31)) (fun _ _ _ => False) (fun pre A B row hs hg hr => ⟨hs.1.kept hg (base := Wl.heap.size) HC.out.bel.size HC.out.lt hr, kept_cells hg hr hs.2 rfl⟩) (fun _ _ _ _ _ hs _ _ => hs) ⟨HC.out, HRC.out⟩ (fun _ _ _ => True) (fun _ _ _ _ _ _ _ _ _ => trivial) ?_ ?_ ?_ ?_)
  · intro L pre x W K hI hK
    gi_wp2_with fail
    exact hK _ _ (KeepsFrom.refl _ _) (KpC.refl _ _) hI trivial
  · intro L pre x a' W _ _ _ _ hlen
    exact absurd hlen (Nat.not_lt_zero _)
  rotate_left
  · intro D c pre W _ _ h _
    exact h.elim
  intro Da ys W hDa _ hI hKa
  obtain ⟨hI, hr⟩ := hI
  have HI := hid hI
  have HRI := hid hr
  have r0 := cell_of hr 0
  have r1 := cell_of hr 1
  have HKa := hid hKa
  have hnea : w.heap.size ≤ Wl.heap.size := HC.out.bel.size
  have HCL := hid HC.out.lt
  clear hI hr HC HRC HKB hKa
  go_wp2_with fail
  refine (free_no 0 0 _ HI.out.no1).mono ?_
  rintro e w1 ⟨rfl, hb⟩
  have HI1 := hid (HI.out.below hb)
  have HR1 := hid (blk_below HRI.out hb (lt_of_block HRI.out))
  have HK1 := hid (blk_below HKa.out hb (lt_of_block HKa.out))
  have r0 := cell_of HR1.out 0
  have r1 := cell_of HR1.out 1
  clear hb HI HRI HKa
  go_wp2_with fail
  refine (set_no 0 0 1 _ HI1.out.no1).mono ?_
  rintro e w2 ⟨rfl, hb⟩
  have HI2 := hid (HI1.out.below hb)
  have HK2 := hid (blk_below HK1.out hb (lt_of_block HK1.out))
  clear hb HI1 HR1 HK1 r0 r1
  go_wp2_with fail
  refine (len_no _ HI2.out.no1).mono ?_
  rintro e w3 ⟨rfl, rfl⟩
  go_wp2_with fail
  refine (left_no _ HI2.out.no1).mono ?_
  rintro e w3 ⟨rfl, rfl⟩
  go_wp2_with fail
  refine (copy_no _ HI2.out.no1).mono ?_
  rintro e w3 ⟨rfl, rfl⟩
  have HN : Hid (NI w (Da :: []) w2) := hid ⟨HI2.out.k0, HI2.out.k1, HI2.out.k2, fun d hd => (by rcases List.mem_cons.1 hd with rfl | hd; exact HK2.out; exact HI2.out.marks d hd), HI2.out.bel⟩
  clear HI2 HK2
  go_wp2_with fail
  refine loop_round fun K2 hK2 => ?_
  have q0 := cell_of HN.out.k2 0
  have q1 := cell_of HN.out.k2 1
  go_wp2_with fail
  refine (take_no 1 _ HN.out.no2).mono ?_
  rintro e wa ⟨rfl, hb⟩
  have HA := hid (HN.out.below hb)
  have HA2 := hid (HA.out.below ((Below.refl _ _).alloc (Nat.le_refl _) (.cells #[.int .i64 0, .int .u32 0] 31)))
  have HR := hid (heap_new wa (.cells #[.int .i64 0, .int .u32 0] 31))
  clear hb q0 q1
  go_wp2_with fail
  refine (get_no 0 1 _ HA2.out.no2).mono ?_
  rintro e wb ⟨rfl, hb⟩
  have HB := hid (HA2.out.below hb)
  have HRB := hid (blk_below HR.out hb (lt_of_block HR.out))
  clear hb HA HA2 HR
  go_wp2_with fail
  refine (all_no _).mono ?_
  rintro e wc ⟨rfl, rfl⟩
  have HC := hid (HB.out.below ((Below.refl _ _).alloc (Nat.le_refl _) (.cells #[.pointer (some ⟨w.heap.size + 1, 0, none⟩)] 23)))
  have HRC := hid (blk_alloc (o' := (.cells #[.pointer (some ⟨w.heap.size + 1, 0, none⟩)] 23)) HRB.out)
  have HKB := hid (heap_new wb (.cells #[.pointer (some ⟨w.heap.size + 1, 0, none⟩)] 23))
  clear HB HRB
  go_wp2_with fail
  generalize wb.alloc (.cells #[.pointer (some ⟨w.heap.size + 1, 0, none⟩)] 23) = Wl at *
  refine wpIn_wide.1 (wpIn_rangeFunc_ownH (n := 8) (gf := 42) (lb := #[.pointer (some ⟨wb.heap.size, 0, none⟩)]) rfl (by decide) rfl trivial (enters_of Try.func42 (by kernel_rfl) rfl) (all_stops 7 wb.heap.size Wl HKB.out HC.out.no2) KpC.trans (fun W L o o' _ h ho _ => KpC.put W L o o' h ho) (Below.refl _ _) (fun _ => rfl) (fun _ W => NI w [Da] W ∧ W.heap[wa.heap.size]? = some (.cells #[.int .i64 0, .int .u32 0] 31)) (fun _ _ _ => False) (fun pre A B row hs hg hr => ⟨hs.1.kept hg (base := Wl.heap.size) HC.out.bel.size HC.out.lt hr, kept_cells hg hr hs.2 rfl⟩) (fun _ _ _ _ _ hs _ _ => hs) ⟨HC.out, HRC.out⟩ (fun _ _ _ => True) (fun _ _ _ _ _ _ _ _ _ => trivial) ?_ ?_ ?_ ?_)
  · intro L pre x W K hI hK
    gi_wp2_with fail
    exact hK _ _ (KeepsFrom.refl _ _) (KpC.refl _ _) hI trivial
  · intro L pre x a' W _ _ _ _ hlen
    exact absurd hlen (Nat.not_lt_zero _)
  rotate_left
  · intro D c pre W _ _ h _
    exact h.elim
  intro Db ys W hDb _ hI hKb
  obtain ⟨hI, hr⟩ := hI
  have HI := hid hI
  have HRI := hid hr
  have r0 := cell_of hr 0
  have r1 := cell_of hr 1
  have HKb := hid hKb
  have hneb : w.heap.size ≤ Wl.heap.size := HC.out.bel.size
  have HCL := hid HC.out.lt
  clear hI hr HC HRC HKB hKb
  go_wp2_with fail
  refine (free_no 0 0 _ HI.out.no2).mono ?_
  rintro e w1 ⟨rfl, hb⟩
  have HI1 := hid (HI.out.below hb)
  have HR1 := hid (blk_below HRI.out hb (lt_of_block HRI.out))
  have HK1 := hid (blk_below HKb.out hb (lt_of_block HKb.out))
  have r0 := cell_of HR1.out 0
  have r1 := cell_of HR1.out 1
  clear hb HI HRI HKb
  go_wp2_with fail
  refine (set_no 0 0 1 _ HI1.out.no2).mono ?_
  rintro e w2 ⟨rfl, hb⟩
  have HI2 := hid (HI1.out.below hb)
  have HK2 := hid (blk_below HK1.out hb (lt_of_block HK1.out))
  clear hb HI1 HR1 HK1 r0 r1
  go_wp2_with fail
  refine (len_no _ HI2.out.no2).mono ?_
  rintro e w3 ⟨rfl, rfl⟩
  go_wp2_with fail
  refine (left_no _ HI2.out.no2).mono ?_
  rintro e w3 ⟨rfl, rfl⟩
  go_wp2_with fail
  refine (copy_no _ HI2.out.no2).mono ?_
  rintro e w3 ⟨rfl, rfl⟩
  have HN : Hid (NI w (Db :: [Da]) w2) := hid ⟨HI2.out.k0, HI2.out.k1, HI2.out.k2, fun d hd => (by rcases List.mem_cons.1 hd with rfl | hd; exact HK2.out; exact HI2.out.marks d hd), HI2.out.bel⟩
  clear HI2 HK2
  go_wp2_with fail
  refine loop_round fun K3 hK3 => ?_
  have hk0 := HN.out.k0
  have f0 := free_of hk0
  have c0 := cell_of hk0 0
  go_wp2_with fail
  have hkb := (KeepsOthers.setCell w2 ⟨w.heap.size, 0, none⟩ (.bool true)).same Db _ (HN.out.marks Db (by simp)) rfl
  have hka := (KeepsOthers.setCell w2 ⟨w.heap.size, 0, none⟩ (.bool true)).same Da _ (HN.out.marks Da (by simp)) rfl
  have hlt := HCL.out Da (by simp)
  have hna : Da ≠ Db := by omega
  have hwa : w.heap.size ≤ Da := by omega
  have hwb : w.heap.size ≤ Db := by omega
  have hka' := (World.putObj_heap_other (o := .deferred none) hna).trans hka
  refine ⟨by simp, .inl ⟨_, _, rfl, run_takeDeferred hkb, ?_⟩⟩
  refine ⟨by simp, .inl ⟨_, _, rfl, run_takeDeferred hka', ?_⟩⟩
  have hc4 := cell_kept (World.cell?_setCell_same' w2 ⟨w.heap.size, 0, none⟩ (.bool true) (by rw [c0]; rfl)) (grownBy_putObj' _ Db (.deferred none)) (fun r e => by cases e; exact ⟨_, hkb, rfl⟩)
  have hc5 := cell_kept hc4 (grownBy_putObj' _ Da (.deferred none)) (fun r e => by cases e; exact ⟨_, hka', rfl⟩)
  exact ⟨.bool true, by simp [results, Try.results21, go_sem, hc5], rfl, ((HN.out.bel.setCell (p := ⟨w.heap.size, 0, none⟩) (Nat.le_refl _) _).trans (belowK_b (w := w) (Nat.le_refl _) _ Db _ _ hwb hkb rfl rfl)).trans (belowK_b (w := w) (Nat.le_refl _) _ Da _ _ hwa hka' rfl rfl)⟩
end Go.Proofs.Ytmgiaedfonaefaa.Z
