/- Part 11 of 51 of a proof: lemmas on the functions that it reaches. -/
import Derived.Test.YtnngicopphiaaaaGreatDoorC10
import Derived.Test.YtnngicopphiaaaaGreatDoorC07
namespace Go.Proofs.YtnngicopphiaaaaGreatDoor.M
set_option maxRecDepth 8000
open Go.ChangeShapes Go.WideShapes Go.ChangeAt Go.RowKit Go.Burg
def refsL (M : Mw) (r : Nat) : List Value := (List.range r).flatMap fun p => [.int .i64 (M.s p), .int .u32 (M.g p)]
def usedL (M : Mw) (r : Nat) : List Value := (List.range r).map fun p => .bool (M.u p)
theorem atL_len (M : Mw) : (atL M).length = 256 := by unfold atL; rw [List.length_map, List.length_range]
theorem atL_get (M : Mw) {b : Nat} (hb : b < 256) : (atL M)[b]? = some (.int .u16 (M.at' b)) := by unfold atL; rw [List.getElem?_map, List.getElem?_range hb]; rfl
theorem refsL_len (M : Mw) (r : Nat) : (refsL M r).length = r * 2 := pairs_len _ _ r
theorem refsL_get (M : Mw) {r k : Nat} (hk : k < r * 2) : (refsL M r)[k]? = some (if k % 2 = 0 then .int .i64 (M.s (k / 2)) else .int .u32 (M.g (k / 2))) := pairs_get _ _ r hk
theorem refsL_one (M : Mw) (r : Nat) : ∀ u ∈ refsL M r, u.oneCell' = true := fun v hv => by
  obtain ⟨j, _, h1⟩ := List.mem_flatMap.1 hv
  simp at h1
  rcases h1 with rfl | rfl <;> rfl
theorem usedL_one (M : Mw) (r : Nat) : ∀ u ∈ usedL M r, u.oneCell' = true := fun v hv => by
  obtain ⟨j, _, rfl⟩ := List.mem_map.1 hv
  rfl
section
variable {w w' : World} {x gr gu r : Nat} {M : Mw}
theorem refs_in (h : ManyAt 219 30 4 w x gr gu r M) : RowIn 30 w gr (refsL M r) := by
  obtain ⟨cs, h1, h2, h3⟩ := h.hr
  refine ⟨cs, h1, fun j hj => ?_⟩
  rw [refsL_len] at hj
  rw [refsL_get M hj]
  obtain ⟨a, b⟩ := h3 (j / 2) (by omega)
  by_cases e : j % 2 = 0
  · rw [if_pos e, ← a]; congr 1; omega
  · rw [if_neg e, ← b]; congr 1; omega
theorem used_in (h : ManyAt 219 30 4 w x gr gu r M) : RowIn 4 w gu (usedL M r) := by
  obtain ⟨cs, h1, h2, h3⟩ := h.hu
  refine ⟨cs, h1, fun j hj => ?_⟩
  have hj2 : j < r := by simpa [usedL] using hj
  rw [h3 j hj2]
  simp [usedL, hj2]
theorem at_load (h : ManyAt 219 30 4 w x gr gu r M) : (Instr.loadAt 215 (.pointer (some ⟨x, 0, none⟩))).run Tryz.prog w = .ok (.agg (atL M).toArray) w := by
  obtain ⟨cs, h1, h2, h3, _⟩ := h.hx
  refine run_loadAt_cells x 0 215 (atL M) _ (fun j v hj => ?_) Tryz.underlying215 rfl (by rw [show (atL M).length = 256 by simp [atL]]; kernel_rfl)
  have hj2 : j < 256 := by have := (List.getElem?_eq_some_iff.1 hj).1; simpa [atL] using this
  rw [Nat.zero_add, cell_of h1, h3 j hj2, ← hj]
  simp [atL, hj2]
structure CpJ (W : World) (r : Nat) (M : Mw) (tab : Nat → Value) (D : Nat → Bool) (xs : Nat → Value) (w : World) : Prop where
  b : Below W.heap.size W w
  v : ∀ j, D j = true → j ≠ 10 → j ≠ 16 → xs j = tab j
  e10 : D 10 = true → ∃ g cap, xs 10 = .slice (some ⟨g, 0, none⟩) r cap ∧ W.heap.size ≤ g ∧ RowIn 30 w g (refsL M r)
  e16 : D 16 = true → ∃ g cap, xs 16 = .slice (some ⟨g, 0, none⟩) r cap
variable {W : World} {tab : Nat → Value} {D : Nat → Bool} {xs : Nat → Value}
theorem CpJ.calm (h : CpJ W r M tab D xs w) {i : Nat} {u : Value} (h1 : i ≠ 10) (h2 : i ≠ 16) (hu : u = tab i) (hb : Below w.heap.size w w') : CpJ W r M tab (fun j => D j || j == i) (fun j => if j = i then u else xs j) w' := by
  refine ⟨below_chain h.b hb h.b.size, fun j hj n1 n2 => ?_, fun e => ?_, fun e => ?_⟩
  · by_cases e : j = i
    · subst e; rw [if_pos rfl]; exact hu
    · rw [if_neg e]; exact h.v j (by simpa [e] using hj) n1 n2
  · obtain ⟨g, cap, e1, e2, e3⟩ := h.e10 (by have : ¬ (10 = i) := fun e => h1 e.symm; simpa [this] using e)
    rw [if_neg (fun e => h1 e.symm)]
    exact ⟨g, cap, e1, e2, e3.keep hb⟩
  · obtain ⟨g, cap, e1⟩ := h.e16 (by have : ¬ (16 = i) := fun e => h2 e.symm; simpa [this] using e)
    rw [if_neg (fun e => h2 e.symm)]
    exact ⟨g, cap, e1⟩
theorem CpJ.c10 (h : CpJ W r M tab D xs w) {g cap : Nat} (hb : Below w.heap.size w w') (hg : w.heap.size ≤ g) (hr : RowIn 30 w' g (refsL M r)) : CpJ W r M tab (fun j => D j || j == 10) (fun j => if j = 10 then .slice (some ⟨g, 0, none⟩) r cap else xs j) w' := by
  refine ⟨below_chain h.b hb h.b.size, fun j hj n1 n2 => ?_, fun _ => ⟨g, cap, rfl, Nat.le_trans h.b.size hg, hr⟩, fun e => ?_⟩
  · rw [if_neg n1]; exact h.v j (by simpa [n1] using hj) n1 n2
  · exact h.e16 (by simpa using e)
theorem CpJ.c16 (h : CpJ W r M tab D xs w) {g cap : Nat} (hb : Below w.heap.size w w') : CpJ W r M tab (fun j => D j || j == 16) (fun j => if j = 16 then .slice (some ⟨g, 0, none⟩) r cap else xs j) w' := by
  refine ⟨below_chain h.b hb h.b.size, fun j hj n1 n2 => ?_, fun e => ?_, fun _ => ⟨g, cap, rfl⟩⟩
  · rw [if_neg n2]; exact h.v j (by simpa [n2] using hj) n1 n2
  · obtain ⟨g', cap', e1, e2, e3⟩ := h.e10 (by simpa using e)
    exact ⟨g', cap', e1, e2, e3.keep hb⟩
end
section
variable {w : World} {x gr gu r : Nat} {M : Mw}
set_option maxRecDepth 20000 in
set_option maxHeartbeats 8000000 in
theorem copy_at (h : ManyAt 219 30 4 w x gr gu r M) :
    Calls Tryz.prog 189 #[.pointer (some ⟨x, 0, none⟩)] w fun e w' => ∃ x' gr', e = .returned (.pointer (some ⟨x', 0, none⟩)) ∧ CopyAt w' x' gr' r M ∧ (w.heap.size ≤ x' ∧ w.heap.size ≤ gr') ∧ Below w.heap.size w w' := by
  have HA := hid h
  have HT := hid (there_at h)
  have HAT := hid (fun (w : World) (h : ManyAt 219 30 4 w x gr gu r M) => at_load h)
  obtain ⟨rv, hrv⟩ : ∃ rv, (atL M).toArray = rv := ⟨_, rfl⟩
  rw [hrv] at HAT
  have HRV := hid hrv
  clear h hrv
  go_enter Tryz.func189, Tryz.ntmps189
  go_wp2_with (go_at_call 193; refine HT.out.mono ?_; rintro e w2 ⟨rfl, rfl⟩)
  clear HT
  refine wp_region_val 17 (CpJ w r M (fun j => ([.pointer (some ⟨x, 0, none⟩), .pointer (some ⟨x, 0, none⟩), .pointer (some ⟨x, 0, none⟩), .pointer (some ⟨x, 0, none⟩), .agg rv, .pointer (some ⟨x, 0, none⟩), .pointer (some ⟨x, 0, none⟩), .pointer (some ⟨x, 0, none⟩), .pointer (some ⟨x, 256, none⟩), .slice (some ⟨gr, 0, none⟩) r r, undef, .pointer (some ⟨x, 0, none⟩), .pointer (some ⟨x, 0, none⟩), .pointer (some ⟨x, 0, none⟩), .pointer (some ⟨x, 257, none⟩), .slice (some ⟨gu, 0, none⟩) r r, undef] : List Value)[j]?.getD undef)) (by kernel_rfl) (by kernel_rfl) (by kernel_rfl) ?h0 ?hs ?hend
  case h0 => exact ⟨⟨rfl, rfl, rfl, Nat.le_refl _, fun _ _ => rfl⟩, (fun j hj => by cases hj), (fun hj => by cases hj), (fun hj => by cases hj)⟩
  case hs =>
    dsimp only [List.take, AllOpsI, dsts, fill]
    refine ⟨?_, ?_, ?_, ?_, ?_, ?_, ?_, ?_, ?_, ?_, ?_, ?_, ?_, ?_, ?_, ?_, ?_⟩
    · intro D xs w1 hDk hwt hJ
      skip
      have hk1 := HA.out.keep hJ.b
      obtain ⟨q1, q2⟩ := hk1.head
      have HJ := hid hJ
      clear hDk hwt hJ hk1
      skip
      go_wp2_with fail
      first | exact ⟨.pointer (some ⟨x, 0, none⟩), by kernel_rfl, fun u hu => by obtain rfl := hu rfl; exact HJ.out.calm (by decide) (by decide) rfl (Below.refl _ _)⟩ | exact ⟨.pointer (some ⟨x, 0, none⟩), by kernel_rfl, HJ.out.calm (i := 4) (by decide) (by decide) rfl (Below.refl _ _)⟩
    · intro D xs w1 hDk hwt hJ
      have ee : xs 0 = .pointer (some ⟨x, 0, none⟩) := hJ.v 0 (hwt 0 (List.mem_of_elem_eq_true (by kernel_rfl))) (by decide) (by decide)
      rw [ee]
      clear ee
      have hk1 := HA.out.keep hJ.b
      obtain ⟨q1, q2⟩ := hk1.head
      have HJ := hid hJ
      clear hDk hwt hJ hk1
      skip
      go_wp2_with fail
      first | exact ⟨.pointer (some ⟨x, 0, none⟩), by kernel_rfl, fun u hu => by obtain rfl := hu rfl; exact HJ.out.calm (by decide) (by decide) rfl (Below.refl _ _)⟩ | exact ⟨.pointer (some ⟨x, 0, none⟩), by kernel_rfl, HJ.out.calm (i := 4) (by decide) (by decide) rfl (Below.refl _ _)⟩
    · intro D xs w1 hDk hwt hJ
      have ee : xs 1 = .pointer (some ⟨x, 0, none⟩) := hJ.v 1 (hwt 1 (List.mem_of_elem_eq_true (by kernel_rfl))) (by decide) (by decide)
      rw [ee]
      clear ee
      have hk1 := HA.out.keep hJ.b
      obtain ⟨q1, q2⟩ := hk1.head
      have HJ := hid hJ
      clear hDk hwt hJ hk1
      skip
      go_wp2_with fail
      first | exact ⟨.pointer (some ⟨x, 0, none⟩), by kernel_rfl, fun u hu => by obtain rfl := hu rfl; exact HJ.out.calm (by decide) (by decide) rfl (Below.refl _ _)⟩ | exact ⟨.pointer (some ⟨x, 0, none⟩), by kernel_rfl, HJ.out.calm (i := 4) (by decide) (by decide) rfl (Below.refl _ _)⟩
    · intro D xs w1 hDk hwt hJ
      have ee : xs 2 = .pointer (some ⟨x, 0, none⟩) := hJ.v 2 (hwt 2 (List.mem_of_elem_eq_true (by kernel_rfl))) (by decide) (by decide)
      rw [ee]
      clear ee
      have hk1 := HA.out.keep hJ.b
      obtain ⟨q1, q2⟩ := hk1.head
      have HJ := hid hJ
      clear hDk hwt hJ hk1
      skip
      go_wp2_with fail
      first | exact ⟨.pointer (some ⟨x, 0, none⟩), by kernel_rfl, fun u hu => by obtain rfl := hu rfl; exact HJ.out.calm (by decide) (by decide) rfl (Below.refl _ _)⟩ | exact ⟨.pointer (some ⟨x, 0, none⟩), by kernel_rfl, HJ.out.calm (i := 4) (by decide) (by decide) rfl (Below.refl _ _)⟩
    · intro D xs w1 hDk hwt hJ
      have ee : xs 3 = .pointer (some ⟨x, 0, none⟩) := hJ.v 3 (hwt 3 (List.mem_of_elem_eq_true (by kernel_rfl))) (by decide) (by decide)
      rw [ee]
      clear ee
      have hk1 := HA.out.keep hJ.b
      obtain ⟨q1, q2⟩ := hk1.head
      have HJ := hid hJ
      clear hDk hwt hJ hk1
      refine wpList_load_run rfl 215 (.tmp 9) rfl (.pointer (some ⟨x, 0, none⟩)) (.agg rv) (by kernel_rfl) (HAT.out _ (HA.out.keep HJ.out.b)) ?_
      go_wp2_with fail
      first | exact ⟨.agg rv, by kernel_rfl, fun u hu => by obtain rfl := hu rfl; exact HJ.out.calm (by decide) (by decide) rfl (Below.refl _ _)⟩ | exact ⟨.agg rv, by kernel_rfl, HJ.out.calm (i := 4) (by decide) (by decide) rfl (Below.refl _ _)⟩
    · intro D xs w1 hDk hwt hJ
      skip
      have hk1 := HA.out.keep hJ.b
      obtain ⟨q1, q2⟩ := hk1.head
      have HJ := hid hJ
      clear hDk hwt hJ hk1
      skip
      go_wp2_with fail
      first | exact ⟨.pointer (some ⟨x, 0, none⟩), by kernel_rfl, fun u hu => by obtain rfl := hu rfl; exact HJ.out.calm (by decide) (by decide) rfl (Below.refl _ _)⟩ | exact ⟨.pointer (some ⟨x, 0, none⟩), by kernel_rfl, HJ.out.calm (i := 4) (by decide) (by decide) rfl (Below.refl _ _)⟩
    · intro D xs w1 hDk hwt hJ
      have ee : xs 5 = .pointer (some ⟨x, 0, none⟩) := hJ.v 5 (hwt 5 (List.mem_of_elem_eq_true (by kernel_rfl))) (by decide) (by decide)
      rw [ee]
      clear ee
      have hk1 := HA.out.keep hJ.b
      obtain ⟨q1, q2⟩ := hk1.head
      have HJ := hid hJ
      clear hDk hwt hJ hk1
      skip
      go_wp2_with fail
      first | exact ⟨.pointer (some ⟨x, 0, none⟩), by kernel_rfl, fun u hu => by obtain rfl := hu rfl; exact HJ.out.calm (by decide) (by decide) rfl (Below.refl _ _)⟩ | exact ⟨.pointer (some ⟨x, 0, none⟩), by kernel_rfl, HJ.out.calm (i := 4) (by decide) (by decide) rfl (Below.refl _ _)⟩
    · intro D xs w1 hDk hwt hJ
      have ee : xs 6 = .pointer (some ⟨x, 0, none⟩) := hJ.v 6 (hwt 6 (List.mem_of_elem_eq_true (by kernel_rfl))) (by decide) (by decide)
      rw [ee]
      clear ee
      have hk1 := HA.out.keep hJ.b
      obtain ⟨q1, q2⟩ := hk1.head
      have HJ := hid hJ
      clear hDk hwt hJ hk1
      skip
      go_wp2_with fail
      first | exact ⟨.pointer (some ⟨x, 0, none⟩), by kernel_rfl, fun u hu => by obtain rfl := hu rfl; exact HJ.out.calm (by decide) (by decide) rfl (Below.refl _ _)⟩ | exact ⟨.pointer (some ⟨x, 0, none⟩), by kernel_rfl, HJ.out.calm (i := 4) (by decide) (by decide) rfl (Below.refl _ _)⟩
    · intro D xs w1 hDk hwt hJ
      have ee : xs 7 = .pointer (some ⟨x, 0, none⟩) := hJ.v 7 (hwt 7 (List.mem_of_elem_eq_true (by kernel_rfl))) (by decide) (by decide)
      rw [ee]
      clear ee
      have hk1 := HA.out.keep hJ.b
      obtain ⟨q1, q2⟩ := hk1.head
      have HJ := hid hJ
      clear hDk hwt hJ hk1
      skip
      go_wp2_with fail
      first | exact ⟨.pointer (some ⟨x, 256, none⟩), by kernel_rfl, fun u hu => by obtain rfl := hu rfl; exact HJ.out.calm (by decide) (by decide) rfl (Below.refl _ _)⟩ | exact ⟨.pointer (some ⟨x, 256, none⟩), by kernel_rfl, HJ.out.calm (i := 4) (by decide) (by decide) rfl (Below.refl _ _)⟩
    · intro D xs w1 hDk hwt hJ
      have ee : xs 8 = .pointer (some ⟨x, 256, none⟩) := hJ.v 8 (hwt 8 (List.mem_of_elem_eq_true (by kernel_rfl))) (by decide) (by decide)
      rw [ee]
      clear ee
      have hk1 := HA.out.keep hJ.b
      obtain ⟨q1, q2⟩ := hk1.head
      have HJ := hid hJ
      clear hDk hwt hJ hk1
      skip
      go_wp2_with fail
      first | exact ⟨.slice (some ⟨gr, 0, none⟩) r r, by kernel_rfl, fun u hu => by obtain rfl := hu rfl; exact HJ.out.calm (by decide) (by decide) rfl (Below.refl _ _)⟩ | exact ⟨.slice (some ⟨gr, 0, none⟩) r r, by kernel_rfl, HJ.out.calm (i := 4) (by decide) (by decide) rfl (Below.refl _ _)⟩
    · intro D xs w1 hDk hwt hJ
      have ee : xs 9 = .slice (some ⟨gr, 0, none⟩) r r := hJ.v 9 (hwt 9 (List.mem_of_elem_eq_true (by kernel_rfl))) (by decide) (by decide)
      rw [ee]
      clear ee
      have HJ := hid hJ
      have HC := hid (rclone (cp := r) (refsL M r) w1 (refs_in (HA.out.keep hJ.b)) (refsL_len M r) (refsL_one M r) (by have := HA.out.r1; omega) (by have := HA.out.r2; omega))
      clear hDk hwt hJ
      go_wp2_with (go_at_call 50; refine HC.out.mono ?_; rintro e w2 ⟨g, cap, rfl, hg, _, hR, hb⟩)
      exact ⟨.slice (some ⟨g, 0, none⟩) r cap, by kernel_rfl, fun u hu => by obtain rfl := hu rfl; exact HJ.out.c10 hb hg hR⟩
    · intro D xs w1 hDk hwt hJ
      skip
      have hk1 := HA.out.keep hJ.b
      obtain ⟨q1, q2⟩ := hk1.head
      have HJ := hid hJ
      clear hDk hwt hJ hk1
      skip
      go_wp2_with fail
      first | exact ⟨.pointer (some ⟨x, 0, none⟩), by kernel_rfl, fun u hu => by obtain rfl := hu rfl; exact HJ.out.calm (by decide) (by decide) rfl (Below.refl _ _)⟩ | exact ⟨.pointer (some ⟨x, 0, none⟩), by kernel_rfl, HJ.out.calm (i := 4) (by decide) (by decide) rfl (Below.refl _ _)⟩
    · intro D xs w1 hDk hwt hJ
      have ee : xs 11 = .pointer (some ⟨x, 0, none⟩) := hJ.v 11 (hwt 11 (List.mem_of_elem_eq_true (by kernel_rfl))) (by decide) (by decide)
      rw [ee]
      clear ee
      have hk1 := HA.out.keep hJ.b
      obtain ⟨q1, q2⟩ := hk1.head
      have HJ := hid hJ
      clear hDk hwt hJ hk1
      skip
      go_wp2_with fail
      first | exact ⟨.pointer (some ⟨x, 0, none⟩), by kernel_rfl, fun u hu => by obtain rfl := hu rfl; exact HJ.out.calm (by decide) (by decide) rfl (Below.refl _ _)⟩ | exact ⟨.pointer (some ⟨x, 0, none⟩), by kernel_rfl, HJ.out.calm (i := 4) (by decide) (by decide) rfl (Below.refl _ _)⟩
    · intro D xs w1 hDk hwt hJ
      have ee : xs 12 = .pointer (some ⟨x, 0, none⟩) := hJ.v 12 (hwt 12 (List.mem_of_elem_eq_true (by kernel_rfl))) (by decide) (by decide)
      rw [ee]
      clear ee
      have hk1 := HA.out.keep hJ.b
      obtain ⟨q1, q2⟩ := hk1.head
      have HJ := hid hJ
      clear hDk hwt hJ hk1
      skip
      go_wp2_with fail
      first | exact ⟨.pointer (some ⟨x, 0, none⟩), by kernel_rfl, fun u hu => by obtain rfl := hu rfl; exact HJ.out.calm (by decide) (by decide) rfl (Below.refl _ _)⟩ | exact ⟨.pointer (some ⟨x, 0, none⟩), by kernel_rfl, HJ.out.calm (i := 4) (by decide) (by decide) rfl (Below.refl _ _)⟩
    · intro D xs w1 hDk hwt hJ
      have ee : xs 13 = .pointer (some ⟨x, 0, none⟩) := hJ.v 13 (hwt 13 (List.mem_of_elem_eq_true (by kernel_rfl))) (by decide) (by decide)
      rw [ee]
      clear ee
      have hk1 := HA.out.keep hJ.b
      obtain ⟨q1, q2⟩ := hk1.head
      have HJ := hid hJ
      clear hDk hwt hJ hk1
      skip
      go_wp2_with fail
      first | exact ⟨.pointer (some ⟨x, 257, none⟩), by kernel_rfl, fun u hu => by obtain rfl := hu rfl; exact HJ.out.calm (by decide) (by decide) rfl (Below.refl _ _)⟩ | exact ⟨.pointer (some ⟨x, 257, none⟩), by kernel_rfl, HJ.out.calm (i := 4) (by decide) (by decide) rfl (Below.refl _ _)⟩
    · intro D xs w1 hDk hwt hJ
      have ee : xs 14 = .pointer (some ⟨x, 257, none⟩) := hJ.v 14 (hwt 14 (List.mem_of_elem_eq_true (by kernel_rfl))) (by decide) (by decide)
      rw [ee]
      clear ee
      have hk1 := HA.out.keep hJ.b
      obtain ⟨q1, q2⟩ := hk1.head
      have HJ := hid hJ
      clear hDk hwt hJ hk1
      skip
      go_wp2_with fail
      first | exact ⟨.slice (some ⟨gu, 0, none⟩) r r, by kernel_rfl, fun u hu => by obtain rfl := hu rfl; exact HJ.out.calm (by decide) (by decide) rfl (Below.refl _ _)⟩ | exact ⟨.slice (some ⟨gu, 0, none⟩) r r, by kernel_rfl, HJ.out.calm (i := 4) (by decide) (by decide) rfl (Below.refl _ _)⟩
    · intro D xs w1 hDk hwt hJ
      have ee : xs 15 = .slice (some ⟨gu, 0, none⟩) r r := hJ.v 15 (hwt 15 (List.mem_of_elem_eq_true (by kernel_rfl))) (by decide) (by decide)
      rw [ee]
      clear ee
      have HJ := hid hJ
      have HC := hid (bclone (cp := r) (usedL M r) w1 (used_in (HA.out.keep hJ.b)) (by unfold usedL; rw [List.length_map, List.length_range, Nat.mul_one]) (usedL_one M r) (by have := HA.out.r1; omega) (by have := HA.out.r2; omega))
      clear hDk hwt hJ
      go_wp2_with (go_at_call 196; refine HC.out.mono ?_; rintro e w2 ⟨g, cap, rfl, hg, _, hR, hb⟩)
      exact ⟨.slice (some ⟨g, 0, none⟩) r cap, by kernel_rfl, fun u hu => by obtain rfl := hu rfl; exact HJ.out.c16 hb⟩
  case hend =>
    intro D xs w1 hD hJ
    dsimp only [List.take, dsts, fill, List.drop]
    obtain ⟨g1, c1, e1, l1, R1⟩ := hJ.e10 (hD 10 (by omega))
    obtain ⟨g2, c2, e2⟩ := hJ.e16 (hD 16 (by omega))
    have e4 : xs 4 = .agg rv := hJ.v 4 (hD 4 (by omega)) (by decide) (by decide)
    rw [e1, e2, e4]
    have HB := hid hJ.b
    have HR := hid (And.intro l1 R1)
    clear hJ e1 e2 e4 hD l1 R1
    refine wpList_build_run rfl 217 #[(0, .tmp 10), (1, .tmp 16), (2, .tmp 22)] rfl #[(0, .agg rv), (1, .slice (some ⟨g1, 0, none⟩) r c1), (2, .slice (some ⟨g2, 0, none⟩) r c2)] (.agg (rv.toList ++ [Value.slice (some ⟨g1, 0, none⟩) r c1, Value.slice (some ⟨g2, 0, none⟩) r c2]).toArray) (by kernel_rfl) (by rw [← HRV.out]; exact build_one M g1 g2 r c1 c2 w1) ?_
    have hn : (rv.toList ++ [Value.slice (some ⟨g1, 0, none⟩) r c1, Value.slice (some ⟨g2, 0, none⟩) r c2]).toArray = (atL M ++ [Value.slice (some ⟨g1, 0, none⟩) r c1, Value.slice (some ⟨g2, 0, none⟩) r c2]).toArray := by rw [← HRV.out]
    have HBT := hid (build_two M g1 g2 r c1 c2 w1)
    rw [← hn] at HBT
    have HN := hid hn
    generalize (rv.toList ++ [Value.slice (some ⟨g1, 0, none⟩) r c1, Value.slice (some ⟨g2, 0, none⟩) r c2]).toArray = bv at *
    clear hn
    refine wpList_build_run rfl 219 #[(0, .tmp 23)] rfl #[(0, .agg bv)] (.agg bv) (by kernel_rfl) HBT.out ?_
    go_wp2
    go_ret
    refine ⟨w1.heap.size, g1, rfl, ⟨⟨bv, ?_, ?_, c1, ?_⟩, ?_, HA.out.r2, HA.out.at_le⟩, ⟨HB.out.size, HR.out.1⟩, HB.out.alloc HB.out.size _⟩
    · exact heap_new _ _
    · intro b hb
      rw [HN.out, List.getElem?_toArray, List.getElem?_append_left (by rw [atL_len]; exact hb), atL_get M hb]
    · rw [HN.out, List.getElem?_toArray, List.getElem?_append_right (by rw [atL_len]; exact Nat.le_refl _), atL_len]; rfl
    · obtain ⟨cs, h1, h2⟩ := HR.out.2
      refine ⟨cs, blk_alloc2 h1, fun p hp => ⟨(h2 _ (by rw [refsL_len]; omega)).trans ((refsL_get M (by omega)).trans ?_), (h2 _ (by rw [refsL_len]; omega)).trans ((refsL_get M (by omega)).trans ?_)⟩⟩
      · rw [if_pos (by omega)]; congr 3; omega
      · rw [if_neg (by omega)]; congr 3; omega
end
end Go.Proofs.YtnngicopphiaaaaGreatDoor.M

namespace Go.Burg
open Go
abbrev Bt (M : Mw) := { b : Nat // b < 256 ∧ 0 < M.at' b }
def Mw.bt (M : Mw) (b : Nat) : Option (Bt M) := if h : b < 256 ∧ 0 < M.at' b then some ⟨b, h⟩ else none
def Mw.on (M : Mw) (k : Nat) : List (Bt M) := (List.range k).filterMap M.bt
theorem Mw.on_yes {M : Mw} {k : Nat} (hk : k < 256) (h : 0 < M.at' k) : M.on (k + 1) = M.on k ++ [⟨k, hk, h⟩] := by
  unfold Mw.on
  rw [List.range_succ, List.filterMap_append]
  have : M.bt k = some ⟨k, hk, h⟩ := dif_pos ⟨hk, h⟩
  simp [this]
theorem Mw.on_no {M : Mw} {k : Nat} (h : M.at' k = 0) : M.on (k + 1) = M.on k := by
  unfold Mw.on
  rw [List.range_succ, List.filterMap_append]
  have : M.bt k = none := dif_neg (by omega)
  simp [this]
theorem Mw.on_len (M : Mw) (k : Nat) : (M.on k).length ≤ k := by
  have := List.length_filterMap_le M.bt (List.range k)
  simpa [Mw.on] using this
theorem Mw.on_pre (M : Mw) {j k : Nat} (h : j ≤ k) : M.on j <+: M.on k := by
  obtain ⟨d, rfl⟩ := Nat.le.dest h
  unfold Mw.on
  rw [show List.range (j + d) = List.range j ++ (List.range d).map (j + ·) from List.range_add, List.filterMap_append]
  exact List.prefix_append _ _
def Mw.kd (M : Mw) (b : Nat) : Kd := ⟨b, M.s (M.at' b - 1), M.g (M.at' b - 1)⟩
theorem Mw.on_kd (M : Mw) {k : Nat} (hk : k ≤ 256) : (M.on k).map (fun b => M.kd b.1) = M.upto k := by
  induction k with
  | zero => rfl
  | succ k ih =>
    have e : M.upto (k + 1) = M.upto k ++ (M.look k).toList := by
      unfold Mw.upto
      rw [List.range_succ, List.filterMap_append]
      cases h : M.look k <;> simp [h]
    rw [e]
    by_cases h : M.at' k = 0
    · rw [Mw.on_no h, ih (by omega)]
      simp [Mw.look, h]
    · rw [Mw.on_yes (by omega) (by omega), List.map_append, ih (by omega)]
      simp [Mw.look, h, Mw.kd]
end Go.Burg
namespace Go.Proofs.YtnngicopphiaaaaGreatDoor.M
set_option maxRecDepth 8000
open Go.ChangeShapes Go.WideShapes Go.ChangeAt Go.RowKit Go.Burg Go.Shelf
attribute [local go_sem] Oper.semAt_some
theorem bytes_at {x : Nat} (w : World) :
    Calls Tryz.prog 190 #[.int .i64 0, .func (.func 191) #[.pointer (some ⟨x, 0, none⟩)] #[]] w fun e w' => e = .returned (.func (.func 197) #[] #[.pointer (some ⟨w.heap.size, 0, none⟩), .pointer (some ⟨(w.heap.size + 1), 0, none⟩)]) ∧ w' = (w.alloc (.cells #[.int .i64 0] 3 (0, 0))).alloc (.cells #[.func (.func 191) #[.pointer (some ⟨x, 0, none⟩)] #[]] 168 (0, 0)) := by
  have hmf : ∀ (fn : Fn) (first cap : Array Value) (w : World), (Instr.makeFunc fn first cap).run Tryz.prog w = .ok (.func fn first cap) w := fun _ _ _ _ => rfl
  go_enter Tryz.func190, Tryz.ntmps190
  go_wp2_with fail
  go_ret
  exact ⟨rfl, rfl⟩
def encB {M : Mw} (b : Bt M) : Array Value := #[.int .i64 b.1]
set_option maxRecDepth 100000 in
set_option maxHeartbeats 4000000 in
theorem bytes_own (A x gr r n₀ : Nat) (M : Mw) (w0 : World) (hA : w0.heap[A]? = some (.cells #[.int .i64 0] 3 (0, 0))) (hA1 : w0.heap[A + 1]? = some (.cells #[.func (.func 191) #[.pointer (some ⟨x, 0, none⟩)] #[]] 168 (0, 0))) (hC : CopyAt w0 x gr r M) (h1 : n₀ ≤ A) (h2 : n₀ ≤ x) (h3 : n₀ ≤ gr) (hN : n₀ ≤ w0.heap.size) (Mine : World → Nat → Prop) (hMine : MineOk n₀ Mine) (m1 : ¬ Mine w0 (A + 1)) (m2 : ¬ Mine w0 x) (m3 : ¬ Mine w0 gr) :
    SeqOwnM Mine Tryz.prog 197 #[.pointer (some ⟨A, 0, none⟩), .pointer (some ⟨(A + 1), 0, none⟩)] encB n₀ (fun xs => xs = M.on 256) (fun pre => pre <+: M.on 256) 256 w0 := by
  intro LL J Jx W hW _ hJ hJx hY h0
  have hB0 := (hW.block A (lt_of_block hA)).trans hA
  have hB1 := (hW.block (A + 1) (lt_of_block hA1)).trans hA1
  have hC1 := hC.keep hW
  have b0 := cell_of hB0 0
  have HMW := hid (And.intro (hMine.priv hN m1 hW) (And.intro (hMine.priv hN m2 hW) (hMine.priv hN m3 hW)))
  have hsW := hW.size
  have HY := hid hY
  have HB1 := hid hB1
  have HC1 := hid hC1
  clear hY hW hB0 hB1 hC1 hA hA1 hC
  refine (callsIn_wide (n := 8)).1 ?_
  refine callsIn_of_wp Tryz.func197 rfl trivial ?_ rfl
  simp only [Tryz.ntmps197, List.size_toArray, List.length_cons, List.length_nil, Nat.reduceAdd, Nat.reduceSub, Array.replicate_succ, Array.replicate_zero, List.push_toArray, List.append_toArray, List.nil_append, List.cons_append]
  gi_wp2_with fail
  gi_loopw [4] (fun iv wr => ∃ k : Nat, k ≤ 256 ∧ iv = .int .i64 k ∧ J (M.on k) wr ∧ CopyAt wr x gr r M ∧ wr.heap[A + 1]? = some (.cells #[.func (.func 191) #[.pointer (some ⟨x, 0, none⟩)] #[]] 168 (0, 0)) ∧ (¬ Mine wr (A + 1) ∧ ¬ Mine wr x ∧ ¬ Mine wr gr)) (fun iv _ => 256 - (intOf iv).toNat)
  case atStart => exact ⟨0, by omega, rfl, h0, HC1.out, HB1.out, HMW.out⟩
  case round =>
    clear h0 HC1 HB1 b0 HMW
    obtain ⟨k, hk, rfl, hJs, hC, hB, hmm⟩ := hrel
    by_cases hlt : k < 256
    · have b1 := cell_of hB 0
      have HJS := hid hJs
      have HC := hid hC
      have HB := hid hB
      have HMM := hid hmm
      have HH := hid (has_c k hlt hC)
      clear hJs hC hB hmm
      by_cases h0 : M.at' k = 0
      · have HU := hid (Mw.on_no h0)
        rw [h0] at HH
        clear h0
        gi_wp2_with fail
        refine ⟨trivial, ?_⟩
        refine ((callsIn_wide (n := 7)).2 HH.out).mono ?_
        rintro e w1 ⟨rfl, rfl⟩
        gi_wp2_with fail
        all_goals refine ⟨fun _ h => (by cases h), ?_⟩
        all_goals gi_wp2_with fail
        all_goals go_roundw
        all_goals first | exact ⟨k + 1, by omega, by go_num, by rw [HU.out]; exact HJS.out, HC.out, HB.out, HMM.out⟩ | (simp [intOf]; omega)
      · have h1 : 0 < M.at' k := by omega
        have HU := hid (Mw.on_yes hlt h1)
        have hd : decide (0 < M.at' k) = true := by simpa using h1
        rw [hd] at HH
        clear hd
        obtain ⟨fn, tmps, assign, body, hy, hR⟩ := HY.out _ ⟨k, hlt, h1⟩ _ 7 HJS.out (Nat.lt_of_le_of_lt (Mw.on_len M k) hlt)
        unfold encB at hy
        dsimp only at hy
        clear h0
        have HRR := hid hR
        clear hR
        gi_wp2_with fail
        refine ⟨trivial, ?_⟩
        refine ((callsIn_wide (n := 7)).2 HH.out).mono ?_
        rintro e w1 ⟨rfl, rfl⟩
        gi_wp2_with fail
        refine HRR.out.mono ?_
        rintro e W3 (⟨rfl, hJ3, hk3, _⟩ | ⟨rfl, hJx3, _⟩)
        · have HJ3 := hid hJ3
          have HC3 : Hid (CopyAt W3 x gr r M) := hid (HC.out.turned (hk3.cells x · h2 HMM.out.2.1) (hk3.cells gr · h3 HMM.out.2.2))
          have HB3 : Hid (W3.heap[A + 1]? = some (.cells #[.func (.func 191) #[.pointer (some ⟨x, 0, none⟩)] #[]] 168 (0, 0))) := hid (hk3.cells (A + 1) _ (by omega) HMM.out.1 HB.out rfl)
          have HMM3 := hid (And.intro (hk3.priv HMM.out.1 (lt_of_block HB.out)) (And.intro (hk3.priv HMM.out.2.1 HC.out.lt.1) (hk3.priv HMM.out.2.2 HC.out.lt.2)))
          clear hJ3 hk3 HRR HC HB HJS
          gi_wp2_with fail
          go_roundw
          case rel => exact ⟨k + 1, by omega, by go_num, by rw [HU.out]; exact HJ3.out, HC3.out, HB3.out, HMM3.out⟩
          case measure => simp [intOf]; omega
        · have HJ3 := hid hJx3
          clear hJx3 HRR HC HB HJS
          gi_wp2_with fail
          refine bodyPost_ret (results_none rfl _ _ _) rfl ?_
          exact ⟨⟨_, rfl⟩, .inr ⟨_, by rw [← HU.out]; exact Mw.on_pre M (by omega), HJ3.out⟩⟩
    · obtain rfl : k = 256 := by omega
      clear hlt HY
      gi_wp2_with fail
      go_end0
      exact ⟨⟨_, rfl⟩, .inl ⟨_, rfl, hJs⟩⟩
end Go.Proofs.YtnngicopphiaaaaGreatDoor.M
