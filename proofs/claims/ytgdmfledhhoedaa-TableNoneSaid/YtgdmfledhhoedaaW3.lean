/- TableNone: the walk. -/
import Derived.Test.YtgdmfledhhoedaaW2
import Derived.Test.YtgdmfledhhoedaaTF
namespace Go.Burg
open Go Go.RowKit
/-- From the head of a round on. -/
def LoopFrom (P : Program) (c : Code) (Q : Exit → Act → World → Prop) (a : Act) (w : World) : Prop :=
  ∀ (b : Frame) (k : List Item) (cs : List Frame), ∃ e a' w', Q e a' w' ∧ Arrives P (lone (b.at a (.code c :: .inLoop c :: k)) cs w) b k cs e a' w'
theorem wp_loop_from {P : Program} {c : Code} {Q : Exit → Act → World → Prop} {a : Act} {w : World} (h : LoopFrom P c Q a w) : (Code.loop c).wp P Q a w := fun b k cs => by
  obtain ⟨e, a', w', hq, harr⟩ := h b k cs
  exact ⟨e, a', w', hq, .of_steps (.one step_loop) harr⟩
theorem loop_round {P : Program} {c : Code} {Q : Exit → Act → World → Prop} {a : Act} {w : World} (h : ∀ K : Act → World → Prop, (∀ a w, LoopFrom P c Q a w → K a w) → c.wp P (Exit.then K Q) a w) : LoopFrom P c Q a w := fun b k cs => by
  obtain ⟨e, a₁, w₁, hq, harr⟩ := h _ (fun _ _ h => h) b (.inLoop c :: k) cs
  cases e with
  | normal =>
    obtain ⟨e₂, a₂, w₂, hq₂, harr₂⟩ := hq b k cs
    exact ⟨e₂, a₂, w₂, hq₂, .of_steps (Steps.trans harr (.one step_inLoop)) harr₂⟩
  | exit id => exact ⟨_, a₁, w₁, hq, .pass (x := .inLoop c) rfl (fun _ _ => .inl (by simp)) harr⟩
  | goto l => exact ⟨_, a₁, w₁, hq, .pass (x := .inLoop c) rfl (fun _ _ => .inl (by simp)) harr⟩
  | ret => exact ⟨_, a₁, w₁, hq, .pass (x := .inLoop c) rfl (fun _ _ => .inl (by simp)) harr⟩
  | panic ch => exact ⟨_, a₁, w₁, hq, .pass (x := .inLoop c) rfl (fun _ _ => .inl (by simp)) harr⟩
  | outgrown => exact ⟨_, a₁, w₁, hq, .pass (x := .inLoop c) rfl (fun _ _ => .inl (by simp)) harr⟩
end Go.Burg
namespace Go.Proofs.Ytgdmfledhhoedaa.T
set_option maxRecDepth 8000
open Go.ChangeShapes Go.WideShapes Go.ChangeAt Go.RowKit Go.Burg Go.Shelf
attribute [local go_sem] Oper.semAt_some
/-- What stands in TableNone: the handle, the table without a tree, both pointers, the marks of loops that are over. -/
structure NI (w : World) (tn gn rt : Int) (ms : List Nat) (W : World) : Prop where
  k0 : W.heap[w.heap.size]? = some (.cells #[.int .i64 tn, .int .u32 gn, .int .u8 rt] 26 (0, 0))
  k1 : ∃ cs, W.heap[w.heap.size + 1]? = some (.cells cs 42 (0, 0)) ∧ cs[0]? = some (.pointer none)
  k2 : W.heap[w.heap.size + 1 + 1]? = some (.cells #[.pointer none, .pointer (some ⟨w.heap.size + 1, 0, none⟩)] 28 (0, 0))
  marks : ∀ d ∈ ms, W.heap[d]? = some (.deferred (some []))
  bel : Below w.heap.size w W
section
variable {w W W' : World} {ms : List Nat} {tn gn rt d : Int} {q : Option Addr} {a1 a2 a3 a4 b : Nat}
theorem NI.below (h : NI w tn gn rt ms W) (k : Below W.heap.size W W') : NI w tn gn rt ms W' :=
  ⟨blk_below h.k0 k (lt_of_block h.k0), (by obtain ⟨cs, h1, h2⟩ := h.k1; exact ⟨cs, blk_below h1 k (lt_of_block h1), h2⟩), blk_below h.k2 k (lt_of_block h.k2), fun d hd => blk_below (h.marks d hd) k (lt_of_block (h.marks d hd)), below_chain h.bel k h.bel.size⟩
theorem NI.alloc (h : NI w tn gn rt ms W) (o : Obj) : NI w tn gn rt ms (W.alloc o) := h.below ((Below.refl _ _).alloc (Nat.le_refl _) _)
theorem NI.kept (h : NI w tn gn rt ms W) {row : Option Nat} (hg : W.grownBy W' row) {base : Nat} (hb : w.heap.size ≤ base) (hm : ∀ d ∈ ms, d < base) (hr : ∀ r, row = some r → base ≤ r ∧ ∃ o : Obj, W.heap[r]? = some o ∧ o.isCells = false) : NI w tn gn rt ms W' :=
  ⟨kept_cells hg hr h.k0 rfl, (by obtain ⟨cs, h1, h2⟩ := h.k1; exact ⟨cs, kept_cells hg hr h1 rfl, h2⟩), kept_cells hg hr h.k2 rfl, fun d hd => (hg.block d (lt_of_block (h.marks d hd)) (fun e => by have := (hr d e.symm).1; have := hm d hd; omega)).trans (h.marks d hd), h.bel.grown hg h.bel.size (fun k e => Nat.le_trans hb (hr k e).1)⟩
theorem NI.no1 (_ : NI w tn gn rt ms W) : NoTab W none := .inl rfl
theorem NI.no2 (h : NI w tn gn rt ms W) : NoTab W (some ⟨w.heap.size + 1, 0, none⟩) := .inr (by obtain ⟨cs, h1, h2⟩ := h.k1; exact ⟨_, cs, rfl, h1, h2⟩)
theorem NI.lt (h : NI w tn gn rt ms W) : ∀ d ∈ ms, d < W.heap.size := fun d hd => lt_of_block (h.marks d hd)
/-- What a round has laid: the answers, the gate, the count. -/
structure RX (w : World) (tn gn rt d : Int) (q : Option Addr) (ms : List Nat) (a1 a2 a3 b a4 : Nat) (W : World) : Prop where
  n : NI w tn gn rt ms W
  no : NoTab W q
  z1 : W.heap[a1]? = some (.cells #[.int .i64 0, .int .u32 0, .int .u8 0] 26 (0, 0))
  z2 : W.heap[a2]? = some (.cells #[.int .i64 0, .int .u32 0] 36 (0, 0))
  z3 : W.heap[a3]? = some (.cells #[.int .u64 0, .int .u64 0] 49 (0, 0))
  g : W.heap[b]? = some (.cells #[.pointer q, .int .i64 tn, .int .u32 gn, .int .u8 rt, .int .i64 d, .pointer none, .int .i64 0, .int .u64 0, .int .u64 0] 76 (0, 0))
  z4 : W.heap[a4]? = some (.cells #[.int .i64 0] 3 (0, 0))
theorem RX.below (h : RX w tn gn rt d q ms a1 a2 a3 b a4 W) (k : Below W.heap.size W W') : RX w tn gn rt d q ms a1 a2 a3 b a4 W' :=
  ⟨h.n.below k, h.no.keep k, blk_below h.z1 k (lt_of_block h.z1), blk_below h.z2 k (lt_of_block h.z2), blk_below h.z3 k (lt_of_block h.z3), blk_below h.g k (lt_of_block h.g), blk_below h.z4 k (lt_of_block h.z4)⟩
theorem NoTab.kept (h : NoTab W q) {row : Option Nat} (hg : W.grownBy W' row) {base : Nat} (hr : ∀ r, row = some r → base ≤ r ∧ ∃ o : Obj, W.heap[r]? = some o ∧ o.isCells = false) : NoTab W' q := by
  rcases h with h | ⟨x, cs, h1, h2, h3⟩
  · exact .inl h
  · exact .inr ⟨x, cs, h1, kept_cells hg hr h2 rfl, h3⟩
theorem RX.kept (h : RX w tn gn rt d q ms a1 a2 a3 b a4 W) {row : Option Nat} (hg : W.grownBy W' row) {base : Nat} (hb : w.heap.size ≤ base) (hm : ∀ d ∈ ms, d < base) (hr : ∀ r, row = some r → base ≤ r ∧ ∃ o : Obj, W.heap[r]? = some o ∧ o.isCells = false) : RX w tn gn rt d q ms a1 a2 a3 b a4 W' :=
  ⟨h.n.kept hg hb hm hr, h.no.kept hg hr, kept_cells hg hr h.z1 rfl, kept_cells hg hr h.z2 rfl, kept_cells hg hr h.z3 rfl, kept_cells hg hr h.g rfl, kept_cells hg hr h.z4 rfl⟩
end
set_option maxRecDepth 100000 in
set_option maxHeartbeats 16000000 in
theorem none_any (n ky tn gn rt d : Int) (w : World) : Calls Try.prog 3 #[.int .i64 n, .int .u64 ky, .agg #[.int .i64 tn, .int .u32 gn, .int .u8 rt], .int .i64 d] w fun e w' => e = .returned (.bool true) ∧ Below w.heap.size w w' := by
  refine (callsIn_wide (n := 8)).1 ?_
  refine callsIn_of_wp_marks Try.func3 rfl trivial ?_ rfl
  refine wpIn_wide.2 ?_
  simp only [Try.ntmps3, List.size_toArray, List.length_cons, List.length_nil, Nat.reduceAdd, Nat.reduceSub, Array.replicate_succ, Array.replicate_zero, List.push_toArray, List.append_toArray, List.nil_append, List.cons_append]
  have hN : NI w tn gn rt [] (((w.alloc (.cells #[.int .i64 tn, .int .u32 gn, .int .u8 rt] 26 (0, 0))).alloc (.cells Try.zeroCells42 42 (0, 0))).alloc (.cells #[.pointer none, .pointer (some ⟨w.heap.size + 1, 0, none⟩)] 28 (0, 0))) := by
    refine ⟨blk_alloc (blk_alloc (heap_new _ _)), ⟨Try.zeroCells42, blk_alloc ?_, by kernel_rfl⟩, ?_, (fun d hd => by simp at hd), (((Below.refl _ _).alloc (Nat.le_refl _) _).alloc (by simp) _).alloc (by simp; omega) _⟩
    · have := heap_new (w.alloc (.cells #[.int .i64 tn, .int .u32 gn, .int .u8 rt] 26 (0, 0))) (.cells Try.zeroCells42 42 (0, 0))
      simpa using this
    · have := heap_new ((w.alloc (.cells #[.int .i64 tn, .int .u32 gn, .int .u8 rt] 26 (0, 0))).alloc (.cells Try.zeroCells42 42 (0, 0))) (.cells #[.pointer none, .pointer (some ⟨w.heap.size + 1, 0, none⟩)] 28 (0, 0))
      simpa using this
  go_wp2_with fail
  refine (tabNew_nil _).mono ?_
  rintro e w1 ⟨rfl, rfl⟩
  go_wp2_with fail
  generalize (((w.alloc (.cells #[.int .i64 tn, .int .u32 gn, .int .u8 rt] 26 (0, 0))).alloc (.cells Try.zeroCells42 42 (0, 0))).alloc (.cells #[.pointer none, .pointer (some ⟨w.heap.size + 1, 0, none⟩)] 28 (0, 0))) = W0 at *
  have HN := hid hN
  clear hN
  refine wp_loop_from (loop_round fun K1 hK1 => ?_)
  have h0 := cell_of HN.out.k0 0
  have h1 := cell_of HN.out.k0 1
  have h2 := cell_of HN.out.k0 2
  have q0 := cell_of HN.out.k2 0
  have q1 := cell_of HN.out.k2 1
  go_wp2_with fail
  refine (issue_no n rt none _ HN.out.no1).mono ?_
  rintro e wa ⟨rfl, hb⟩
  have HA := hid ((HN.out.below hb).alloc (.cells #[.int .i64 0, .int .u32 0, .int .u8 0] 26 (0, 0)))
  have H1 := hid (heap_new wa (.cells #[.int .i64 0, .int .u32 0, .int .u8 0] 26 (0, 0)))
  clear h0 h1 h2
  clear hb q0 q1
  go_wp2_with fail
  refine (anchor_no n none _ HA.out.no1).mono ?_
  rintro e wb ⟨rfl, hb⟩
  have HB := hid ((HA.out.below hb).alloc (.cells #[.int .i64 0, .int .u32 0] 36 (0, 0)))
  have H1b := hid (blk_alloc (o' := (.cells #[.int .i64 0, .int .u32 0] 36 (0, 0))) (blk_below H1.out hb (lt_of_block H1.out)))
  have H2 := hid (heap_new wb (.cells #[.int .i64 0, .int .u32 0] 36 (0, 0)))
  clear hb HA H1
  go_wp2_with fail
  refine (has_no n none _ HB.out.no1).mono ?_
  rintro e wc ⟨rfl, hb⟩
  have HC := hid ((HB.out.below hb).alloc (.cells #[.int .u64 0, .int .u64 0] 49 (0, 0)))
  have H1c := hid (blk_alloc (o' := (.cells #[.int .u64 0, .int .u64 0] 49 (0, 0))) (blk_below H1b.out hb (lt_of_block H1b.out)))
  have H2c := hid (blk_alloc (o' := (.cells #[.int .u64 0, .int .u64 0] 49 (0, 0))) (blk_below H2.out hb (lt_of_block H2.out)))
  have H3 := hid (heap_new wc (.cells #[.int .u64 0, .int .u64 0] 49 (0, 0)))
  clear hb HB H1b H2
  have h0 := cell_of HC.out.k0 0
  have h1 := cell_of HC.out.k0 1
  have h2 := cell_of HC.out.k0 2
  go_wp2_with fail
  refine (gate_no tn gn rt d none _).mono ?_
  rintro e wd ⟨b, rfl, hg, _, hb⟩
  clear h0 h1 h2
  have HX : Hid (RX w tn gn rt d (none) [] wa.heap.size wb.heap.size wc.heap.size b wd.heap.size (wd.alloc (.cells #[.int .i64 0] 3 (0, 0)))) := hid ⟨(HC.out.below hb).alloc _, (HC.out.below hb).no1.alloc _, blk_alloc (blk_below H1c.out hb (lt_of_block H1c.out)), blk_alloc (blk_below H2c.out hb (lt_of_block H2c.out)), blk_alloc (blk_below H3.out hb (lt_of_block H3.out)), blk_alloc hg, heap_new _ _⟩
  clear hb hg HC H1c H2c H3
  go_wp2_with fail
  refine (all_no (none) _).mono ?_
  rintro e we ⟨rfl, rfl⟩
  have HX := hid (HX.out.below ((Below.refl _ _).alloc (Nat.le_refl _) (.cells #[.pointer (none)] 28 (0, 0))))
  have hkb := heap_new (wd.alloc (.cells #[.int .i64 0] 3 (0, 0))) (.cells #[.pointer (none)] 28 (0, 0))
  rw [show (wd.alloc (.cells #[.int .i64 0] 3 (0, 0))).heap.size = wd.heap.size + 1 by simp] at hkb
  have HKB := hid hkb
  clear hkb
  go_wp2_with fail
  generalize wa.heap.size = a1 at *
  generalize wb.heap.size = a2 at *
  generalize wc.heap.size = a3 at *
  generalize (wd.alloc (.cells #[.int .i64 0] 3 (0, 0))).alloc (.cells #[.pointer (none)] 28 (0, 0)) = Wl at *
  generalize wd.heap.size = a4 at *
  refine wpIn_wide.1 (wpIn_rangeFunc_ownH (n := 8) (gf := 22) (lb := #[.pointer (some ⟨a4 + 1, 0, none⟩)]) rfl (by decide) rfl trivial (enters_of Try.func22 (by kernel_rfl) rfl) (all_stops 7 (a4 + 1) (none) Wl HKB.out HX.out.no) (fun _ _ => trivial) (fun _ _ _ _ _ _ _ _ => trivial) (Below.refl _ _) (fun _ => rfl) (fun _ W => RX w tn gn rt d (none) [] a1 a2 a3 b a4 W) (fun _ _ _ => False) (fun pre A B row hs hg hr => hs.kept hg (base := Wl.heap.size) HX.out.n.bel.size HX.out.n.lt hr) (fun _ _ _ _ _ hs _ _ => hs) HX.out (fun _ _ _ => True) (fun _ _ _ _ _ _ _ _ _ => trivial) ?_ ?_ ?_ ?_)
  · intro L pre x W K hI hK
    gi_wp2_with fail
    exact hK _ _ (KeepsFrom.refl _ _) trivial hI trivial
  · intro L pre x a' W _ _ _ _ hlen
    exact absurd hlen (Nat.not_lt_zero _)
  rotate_left
  · intro D c pre W _ _ h _
    exact h.elim
  intro Da ys W hDa _ hI hKa
  have hnea : w.heap.size ≤ Wl.heap.size := HX.out.n.bel.size
  have HCL := hid HX.out.n.lt
  clear HX HKB
  have HX := hid hI
  have HM := hid hKa
  clear hI hKa
  have h0 := cell_of HX.out.n.k0 0; have h1 := cell_of HX.out.n.k0 1; have h2 := cell_of HX.out.n.k0 2; have x0 := cell_of HX.out.z1 0; have x1 := cell_of HX.out.z1 1; have x2 := cell_of HX.out.z1 2; have y0 := cell_of HX.out.z2 0; have y1 := cell_of HX.out.z2 1; have s0 := cell_of HX.out.z3 0; have s1 := cell_of HX.out.z3 1; have i0 := cell_of HX.out.z4 0
  go_wp2_with fail
  clear h0 h1 h2 x0 x1 x2 y0 y1 s0 s1 i0
  have hmReserve : ∀ (w : World) (b : Nat), (method 281 73 (.pointer (some ⟨b, 0, none⟩)) "Reserve").run Try.prog w = .ok (100, .pointer (some ⟨b, 0, none⟩)) w := fun w b => by kernel_rfl
  dsimp only [List.append]
  refine wp_region_seq 73 (fun w1 => Below (W).heap.size (W) w1) (by kernel_rfl) (by kernel_rfl) (by kernel_rfl) ⟨rfl, rfl, rfl, Nat.le_refl _, fun _ _ => rfl⟩ ?_
  dsimp only [List.take]
  iterate 73
    refine Seq.cons (a' := ?_) ?_ ?_ ?_
    rotate_left
    ·
      intro w1 hw1
      have HXX := HX.out.below hw1; have h0 := cell_of HXX.n.k0 0; have h1 := cell_of HXX.n.k0 1; have h2 := cell_of HXX.n.k0 2; have x0 := cell_of HXX.z1 0; have x1 := cell_of HXX.z1 1; have x2 := cell_of HXX.z1 2; have y0 := cell_of HXX.z2 0; have y1 := cell_of HXX.z2 1; have s0 := cell_of HXX.z3 0; have s1 := cell_of HXX.z3 1; have i0 := cell_of HXX.z4 0; have HXN := hid HXX; clear HXX
      go_wp2_with (first | (go_at_call 10; refine (create_no n ky 0 (none) _ HXN.out.no).mono ?_; rintro e w' ⟨rfl, hb⟩) | (go_at_call 11; refine (remove_no n (none) _ HXN.out.no).mono ?_; rintro e w' ⟨rfl, hb⟩) | (go_at_call 12; refine (revoke_no n (none) _ HXN.out.no).mono ?_; rintro e w' ⟨rfl, hb⟩) | (go_at_call 13; refine (good_no tn gn rt (none) _ HXN.out.no).mono ?_; rintro e w' ⟨rfl, hb⟩) | (go_at_call 14; refine (may_no tn gn rt d (none) _ HXN.out.no).mono ?_; rintro e w' ⟨rfl, hb⟩) | (go_at_call 15; refine (tenants_no (none) _ HXN.out.no).mono ?_; rintro e w' ⟨rfl, hb⟩) | (go_at_call 100; refine (greserve_no 0 0 _ HXN.out.g HXN.out.no).mono ?_; rintro e w' ⟨rfl, hb⟩))
      refine ⟨?_, by first | assumption | (simpa using below_chain hw1 hb hw1.size)⟩
      exact rfl
    · kernel_rfl
  refine SeqI.nil ?_
  intro _ w1 _ hw1
  dsimp only [List.drop]
  have HX2 := hid (HX.out.below hw1)
  have HM2 := hid (blk_below HM.out hw1 (lt_of_block HM.out))
  clear hw1 HX HM hmReserve
  have hmCommit : ∀ (w : World) (b : Nat), (method 281 73 (.pointer (some ⟨b, 0, none⟩)) "Commit").run Try.prog w = .ok (98, .pointer (some ⟨b, 0, none⟩)) w := fun w b => by kernel_rfl
  have hmRefund : ∀ (w : World) (b : Nat), (method 281 73 (.pointer (some ⟨b, 0, none⟩)) "Refund").run Try.prog w = .ok (99, .pointer (some ⟨b, 0, none⟩)) w := fun w b => by kernel_rfl
  go_wp2_with (first | (go_at_call 98; refine (gcommit_no _ HX2.out.g).mono ?_; rintro e w2 ⟨rfl, rfl⟩) | (go_at_call 99; refine (grefund_no _ HX2.out.g).mono ?_; rintro e w2 ⟨rfl, rfl⟩))
  clear hmCommit hmRefund
  have HN : Hid (NI w tn gn rt (Da :: []) _) := hid ⟨HX2.out.n.k0, HX2.out.n.k1, HX2.out.n.k2, fun d hd => (by rcases List.mem_cons.1 hd with rfl | hd; exact HM2.out; exact HX2.out.n.marks d hd), HX2.out.n.bel⟩
  clear HX2 HM2
  refine loop_round fun K2 hK2 => ?_
  have h0 := cell_of HN.out.k0 0
  have h1 := cell_of HN.out.k0 1
  have h2 := cell_of HN.out.k0 2
  have q0 := cell_of HN.out.k2 0
  have q1 := cell_of HN.out.k2 1
  go_wp2_with fail
  refine (issue_no n rt (some ⟨w.heap.size + 1, 0, none⟩) _ HN.out.no2).mono ?_
  rintro e wa ⟨rfl, hb⟩
  have HA := hid ((HN.out.below hb).alloc (.cells #[.int .i64 0, .int .u32 0, .int .u8 0] 26 (0, 0)))
  have H1 := hid (heap_new wa (.cells #[.int .i64 0, .int .u32 0, .int .u8 0] 26 (0, 0)))
  clear h0 h1 h2
  clear hb q0 q1
  go_wp2_with fail
  refine (anchor_no n (some ⟨w.heap.size + 1, 0, none⟩) _ HA.out.no2).mono ?_
  rintro e wb ⟨rfl, hb⟩
  have HB := hid ((HA.out.below hb).alloc (.cells #[.int .i64 0, .int .u32 0] 36 (0, 0)))
  have H1b := hid (blk_alloc (o' := (.cells #[.int .i64 0, .int .u32 0] 36 (0, 0))) (blk_below H1.out hb (lt_of_block H1.out)))
  have H2 := hid (heap_new wb (.cells #[.int .i64 0, .int .u32 0] 36 (0, 0)))
  clear hb HA H1
  go_wp2_with fail
  refine (has_no n (some ⟨w.heap.size + 1, 0, none⟩) _ HB.out.no2).mono ?_
  rintro e wc ⟨rfl, hb⟩
  have HC := hid ((HB.out.below hb).alloc (.cells #[.int .u64 0, .int .u64 0] 49 (0, 0)))
  have H1c := hid (blk_alloc (o' := (.cells #[.int .u64 0, .int .u64 0] 49 (0, 0))) (blk_below H1b.out hb (lt_of_block H1b.out)))
  have H2c := hid (blk_alloc (o' := (.cells #[.int .u64 0, .int .u64 0] 49 (0, 0))) (blk_below H2.out hb (lt_of_block H2.out)))
  have H3 := hid (heap_new wc (.cells #[.int .u64 0, .int .u64 0] 49 (0, 0)))
  clear hb HB H1b H2
  have h0 := cell_of HC.out.k0 0
  have h1 := cell_of HC.out.k0 1
  have h2 := cell_of HC.out.k0 2
  go_wp2_with fail
  refine (gate_no tn gn rt d (some ⟨w.heap.size + 1, 0, none⟩) _).mono ?_
  rintro e wd ⟨b, rfl, hg, _, hb⟩
  clear h0 h1 h2
  have HX : Hid (RX w tn gn rt d ((some ⟨w.heap.size + 1, 0, none⟩)) [Da] wa.heap.size wb.heap.size wc.heap.size b wd.heap.size (wd.alloc (.cells #[.int .i64 0] 3 (0, 0)))) := hid ⟨(HC.out.below hb).alloc _, (HC.out.below hb).no2.alloc _, blk_alloc (blk_below H1c.out hb (lt_of_block H1c.out)), blk_alloc (blk_below H2c.out hb (lt_of_block H2c.out)), blk_alloc (blk_below H3.out hb (lt_of_block H3.out)), blk_alloc hg, heap_new _ _⟩
  clear hb hg HC H1c H2c H3
  go_wp2_with fail
  refine (all_no ((some ⟨w.heap.size + 1, 0, none⟩)) _).mono ?_
  rintro e we ⟨rfl, rfl⟩
  have HX := hid (HX.out.below ((Below.refl _ _).alloc (Nat.le_refl _) (.cells #[.pointer ((some ⟨w.heap.size + 1, 0, none⟩))] 28 (0, 0))))
  have hkb := heap_new (wd.alloc (.cells #[.int .i64 0] 3 (0, 0))) (.cells #[.pointer ((some ⟨w.heap.size + 1, 0, none⟩))] 28 (0, 0))
  rw [show (wd.alloc (.cells #[.int .i64 0] 3 (0, 0))).heap.size = wd.heap.size + 1 by simp] at hkb
  have HKB := hid hkb
  clear hkb
  go_wp2_with fail
  generalize wa.heap.size = a1 at *
  generalize wb.heap.size = a2 at *
  generalize wc.heap.size = a3 at *
  generalize (wd.alloc (.cells #[.int .i64 0] 3 (0, 0))).alloc (.cells #[.pointer ((some ⟨w.heap.size + 1, 0, none⟩))] 28 (0, 0)) = Wl at *
  generalize wd.heap.size = a4 at *
  refine wpIn_wide.1 (wpIn_rangeFunc_ownH (n := 8) (gf := 22) (lb := #[.pointer (some ⟨a4 + 1, 0, none⟩)]) rfl (by decide) rfl trivial (enters_of Try.func22 (by kernel_rfl) rfl) (all_stops 7 (a4 + 1) ((some ⟨w.heap.size + 1, 0, none⟩)) Wl HKB.out HX.out.no) (fun _ _ => trivial) (fun _ _ _ _ _ _ _ _ => trivial) (Below.refl _ _) (fun _ => rfl) (fun _ W => RX w tn gn rt d ((some ⟨w.heap.size + 1, 0, none⟩)) [Da] a1 a2 a3 b a4 W) (fun _ _ _ => False) (fun pre A B row hs hg hr => hs.kept hg (base := Wl.heap.size) HX.out.n.bel.size HX.out.n.lt hr) (fun _ _ _ _ _ hs _ _ => hs) HX.out (fun _ _ _ => True) (fun _ _ _ _ _ _ _ _ _ => trivial) ?_ ?_ ?_ ?_)
  · intro L pre x W K hI hK
    gi_wp2_with fail
    exact hK _ _ (KeepsFrom.refl _ _) trivial hI trivial
  · intro L pre x a' W _ _ _ _ hlen
    exact absurd hlen (Nat.not_lt_zero _)
  rotate_left
  · intro D c pre W _ _ h _
    exact h.elim
  intro Db ys W hDb _ hI hKb
  have hneb : w.heap.size ≤ Wl.heap.size := HX.out.n.bel.size
  have HCL := hid HX.out.n.lt
  clear HX HKB
  have HX := hid hI
  have HM := hid hKb
  clear hI hKb
  have h0 := cell_of HX.out.n.k0 0; have h1 := cell_of HX.out.n.k0 1; have h2 := cell_of HX.out.n.k0 2; have x0 := cell_of HX.out.z1 0; have x1 := cell_of HX.out.z1 1; have x2 := cell_of HX.out.z1 2; have y0 := cell_of HX.out.z2 0; have y1 := cell_of HX.out.z2 1; have s0 := cell_of HX.out.z3 0; have s1 := cell_of HX.out.z3 1; have i0 := cell_of HX.out.z4 0
  go_wp2_with fail
  clear h0 h1 h2 x0 x1 x2 y0 y1 s0 s1 i0
  have hmReserve : ∀ (w : World) (b : Nat), (method 281 73 (.pointer (some ⟨b, 0, none⟩)) "Reserve").run Try.prog w = .ok (100, .pointer (some ⟨b, 0, none⟩)) w := fun w b => by kernel_rfl
  dsimp only [List.append]
  refine wp_region_seq 73 (fun w1 => Below (W).heap.size (W) w1) (by kernel_rfl) (by kernel_rfl) (by kernel_rfl) ⟨rfl, rfl, rfl, Nat.le_refl _, fun _ _ => rfl⟩ ?_
  dsimp only [List.take]
  iterate 73
    refine Seq.cons (a' := ?_) ?_ ?_ ?_
    rotate_left
    ·
      intro w1 hw1
      have HXX := HX.out.below hw1; have h0 := cell_of HXX.n.k0 0; have h1 := cell_of HXX.n.k0 1; have h2 := cell_of HXX.n.k0 2; have x0 := cell_of HXX.z1 0; have x1 := cell_of HXX.z1 1; have x2 := cell_of HXX.z1 2; have y0 := cell_of HXX.z2 0; have y1 := cell_of HXX.z2 1; have s0 := cell_of HXX.z3 0; have s1 := cell_of HXX.z3 1; have i0 := cell_of HXX.z4 0; have HXN := hid HXX; clear HXX
      go_wp2_with (first | (go_at_call 10; refine (create_no n ky 0 ((some ⟨w.heap.size + 1, 0, none⟩)) _ HXN.out.no).mono ?_; rintro e w' ⟨rfl, hb⟩) | (go_at_call 11; refine (remove_no n ((some ⟨w.heap.size + 1, 0, none⟩)) _ HXN.out.no).mono ?_; rintro e w' ⟨rfl, hb⟩) | (go_at_call 12; refine (revoke_no n ((some ⟨w.heap.size + 1, 0, none⟩)) _ HXN.out.no).mono ?_; rintro e w' ⟨rfl, hb⟩) | (go_at_call 13; refine (good_no tn gn rt ((some ⟨w.heap.size + 1, 0, none⟩)) _ HXN.out.no).mono ?_; rintro e w' ⟨rfl, hb⟩) | (go_at_call 14; refine (may_no tn gn rt d ((some ⟨w.heap.size + 1, 0, none⟩)) _ HXN.out.no).mono ?_; rintro e w' ⟨rfl, hb⟩) | (go_at_call 15; refine (tenants_no ((some ⟨w.heap.size + 1, 0, none⟩)) _ HXN.out.no).mono ?_; rintro e w' ⟨rfl, hb⟩) | (go_at_call 100; refine (greserve_no 0 0 _ HXN.out.g HXN.out.no).mono ?_; rintro e w' ⟨rfl, hb⟩))
      refine ⟨?_, by first | assumption | (simpa using below_chain hw1 hb hw1.size)⟩
      exact rfl
    · kernel_rfl
  refine SeqI.nil ?_
  intro _ w1 _ hw1
  dsimp only [List.drop]
  have HX2 := hid (HX.out.below hw1)
  have HM2 := hid (blk_below HM.out hw1 (lt_of_block HM.out))
  clear hw1 HX HM hmReserve
  have hmCommit : ∀ (w : World) (b : Nat), (method 281 73 (.pointer (some ⟨b, 0, none⟩)) "Commit").run Try.prog w = .ok (98, .pointer (some ⟨b, 0, none⟩)) w := fun w b => by kernel_rfl
  have hmRefund : ∀ (w : World) (b : Nat), (method 281 73 (.pointer (some ⟨b, 0, none⟩)) "Refund").run Try.prog w = .ok (99, .pointer (some ⟨b, 0, none⟩)) w := fun w b => by kernel_rfl
  go_wp2_with (first | (go_at_call 98; refine (gcommit_no _ HX2.out.g).mono ?_; rintro e w2 ⟨rfl, rfl⟩) | (go_at_call 99; refine (grefund_no _ HX2.out.g).mono ?_; rintro e w2 ⟨rfl, rfl⟩))
  clear hmCommit hmRefund
  have HN : Hid (NI w tn gn rt (Db :: [Da]) _) := hid ⟨HX2.out.n.k0, HX2.out.n.k1, HX2.out.n.k2, fun d hd => (by rcases List.mem_cons.1 hd with rfl | hd; exact HM2.out; exact HX2.out.n.marks d hd), HX2.out.n.bel⟩
  clear HX2 HM2
  refine loop_round fun K3 hK3 => ?_
  go_wp2_with fail
  refine (awake_any _).mono ?_
  rintro e wz ⟨rfl, hb⟩
  have HN := hid (HN.out.below hb)
  clear hb
  go_wp2_with fail
  have hkb := HN.out.marks Db (by simp)
  have hka := HN.out.marks Da (by simp)
  have hlt := HCL.out Da (by simp)
  have hna : Da ≠ Db := by omega
  have hwa : w.heap.size ≤ Da := by omega
  have hwb : w.heap.size ≤ Db := by omega
  have hka' := (World.putObj_heap_other (o := .deferred none) hna).trans hka
  refine ⟨by simp, .inl ⟨_, _, rfl, run_takeDeferred hkb, ?_⟩⟩
  refine ⟨by simp, .inl ⟨_, _, rfl, run_takeDeferred hka', ?_⟩⟩
  exact ⟨.bool true, by simp [results, Try.results3, go_sem], rfl, (HN.out.bel.trans (belowK_b (w := w) (Nat.le_refl _) _ Db _ _ hwb hkb rfl rfl)).trans (belowK_b (w := w) (Nat.le_refl _) _ Da _ _ hwa hka' rfl rfl)⟩
end Go.Proofs.Ytgdmfledhhoedaa.T
