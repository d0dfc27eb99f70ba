/- The slab's methods: Take, Len, Left, New (string). -/
import Derived.Test.YtmgiaedfonaefaaSlabS3
import Derived.OwnWalk
namespace Go.Proofs.Ytmgiaedfonaefaa.S
open Go.ChangeShapes Go.WideShapes Go.ChangeAt Go.RowKit Go.Burg


theorem take_no {b g : Nat} {l : List (Cel ByteArray)} (x : ByteArray) (w : World) (h : SlabAt (fun x : ByteArray => (.string x)) 93 90 w b g l) (hF : First l (-1)) :
    Calls Try.prog 23 #[.pointer (some ⟨b, 0, none⟩), (.string x)] w fun e w' => e = .returned (.tuple #[.agg #[.int .i64 0, .int .u32 0], .int .i64 14]) ∧ Below w.heap.size w w' := by
  have hA := h.alloc (.cells #[.int .i64 0, .int .u32 0] 31)
  have hN := heap_new w (.cells #[.int .i64 0, .int .u32 0] 31)
  go_enter Try.func23, Try.ntmps23
  go_wp2_with fail
  refine (there_any _ hA).mono ?_
  rintro e w1 ⟨rfl, hw1⟩
  have h1 := hA.keep hw1
  have hN1 := blk_below hN hw1 (by simp)
  have HB1 : Hid (Below w.heap.size w w1) := hid (((Below.refl _ _).alloc (Nat.le_refl _) _).trans (hw1.mono (by simp)))
  clear hw1 hA hN
  obtain ⟨s0, sf⟩ := h1.head
  go_wp2_with fail
  refine (index_any _ _ h1.hc h1.top hF).mono ?_
  rintro e w2 ⟨rfl, hw2⟩
  have h2 := h1.keep hw2
  have hN2 := blk_below hN1 hw2 (lt_of_block hN1)
  have hl2 := lt_of_block hN2
  have HB2 : Hid (Below w.heap.size w w2) := hid (HB1.out.trans (hw2.mono HB1.out.size))
  clear hw2 h1 hN1 s0 sf HB1
  have n0 := cell_of hN2 0
  have n1 := cell_of hN2 1
  have nf := free_of hN2
  go_wp2
  refine bodyPost_ret (v := .tuple #[.agg #[_, _], _]) (by simp [results, Try.results23, go_sem, n0, n1]) rfl ⟨rfl, ?_⟩
  exact (HB2.out.setCell (Nat.le_refl _) _).setCell (Nat.le_refl _) _

set_option maxHeartbeats 2000000 in
theorem take_yes {b g k : Nat} {l : List (Cel ByteArray)} {c : Cel ByteArray} (x : ByteArray) (w : World) (h : SlabAt (fun x : ByteArray => (.string x)) 93 90 w b g l) (hF : First l (k : Int)) (hk : l[k]? = some c) (hr : c.room = true) :
    Calls Try.prog 23 #[.pointer (some ⟨b, 0, none⟩), (.string x)] w fun e w' => e = .returned (.tuple #[.agg #[.int .i64 k, .int .u32 (c.gen + 1)], .int .i64 0]) ∧ SlabAt (fun x : ByteArray => (.string x)) 93 90 w' b g (l.set k ⟨true, x, c.gen + 1⟩) ∧ Mod (· = g) w w' := by
  have hkl : k < l.length := (List.getElem?_eq_some_iff.1 hk).1
  have hgl := h.glt
  have hbl := h.blt
  have hng := h.ne
  have ht := h.top
  have hgen : c.gen < 4294967295 := by
    simp only [Cel.room, Bool.and_eq_true, decide_eq_true_eq] at hr
    exact hr.2
  have hgen0 : 0 ≤ c.gen := (h.hc.cell hk).2.2.2.2.1
  obtain ⟨is, y, gen⟩ := c
  simp only at hgen hgen0
  clear hr
  have HH := hid h
  have hA := h.alloc (.cells #[.int .i64 0, .int .u32 0] 31)
  have hN := heap_new w (.cells #[.int .i64 0, .int .u32 0] 31)
  go_enter Try.func23, Try.ntmps23
  go_wp2_with fail
  refine (there_any _ hA).mono ?_
  rintro e w1 ⟨rfl, hw1⟩
  have h1 := hA.keep hw1
  have hN1 := blk_below hN hw1 (by simp)
  have HB1 : Hid (Below w.heap.size w w1) := hid (((Below.refl _ _).alloc (Nat.le_refl _) _).trans (hw1.mono (by simp)))
  clear hw1 hA hN
  obtain ⟨s0, sf⟩ := h1.head
  go_wp2_with fail
  refine (index_any _ _ h1.hc h1.top hF).mono ?_
  rintro e w2 ⟨rfl, hw2⟩
  have h2 := h1.keep hw2
  have hN2 := blk_below hN1 hw2 (lt_of_block hN1)
  have hl2 := lt_of_block hN2
  have HB2 : Hid (Below w.heap.size w w2) := hid (HB1.out.trans (hw2.mono HB1.out.size))
  clear hw2 h1 hN1 s0 sf HB1
  go_wp2_with fail
  refine wp_region_seq 19 (fun w1 => Below (w2).heap.size (w2) w1) (by kernel_rfl) (by kernel_rfl) (by kernel_rfl) ⟨rfl, rfl, rfl, Nat.le_refl _, fun _ _ => rfl⟩ ?_
  dsimp only [List.take]
  iterate 19
    refine Seq.cons (a' := ?_) ?_ ?_ ?_
    rotate_left
    ·
      intro w1 hw1
      have h2 := h2.keep hw1
      obtain ⟨s0, sf⟩ := h2.head
      obtain ⟨c0, c1, c2, cf, _, _⟩ := h2.hc.cell hk
      simp only at c2
      clear c0 c1
      go_wp2_with (fail)
      refine ⟨?_, by first | assumption | (simpa using below_chain hw1 hb hw1.size)⟩
      exact rfl
    · kernel_rfl
  refine SeqI.nil ?_
  intro _ w1 _ hw1
  dsimp only [List.drop]
  have h3 := h2.keep hw1
  have hN3 := blk_below hN2 hw1 hl2
  have HB3 : Hid (Below w.heap.size w w1) := hid (HB2.out.trans (hw1.mono HB2.out.size))
  clear hw1 h2 hN2 HB2
  obtain ⟨s0, sf⟩ := h3.head
  obtain ⟨c0, c1, c2, cf, _, _⟩ := h3.hc.cell hk
  simp only at c0 c1 c2
  have n0 := cell_of hN3 0
  have n1 := cell_of hN3 1
  have nf := free_of hN3
  have HP := hid (h3.hc.put3 hk true x (gen + 1) ⟨by omega, by omega⟩)
  go_wp2_with fail
  refine bodyPost_ret (v := .tuple #[.agg #[_, _], _]) (by simp [results, Try.results23, go_sem, n0, n1]) rfl ⟨rfl, ?_⟩
  have e : ∀ (W : World) (j : Nat) (v : Value), (W.setCell ⟨w.heap.size, j, none⟩ v).heap[g]? = W.heap[g]? := fun W j v => Below.heap_setCell _ _ _ _ (by intro e; simp at e; omega)
  have hC := HP.out.same ((e _ 1 (.int .u32 (gen + 1))).trans (e _ 0 (.int .i64 k)))
  have hM : Mod (· = g) w _ := (Mod.setCell (S := (· = g)) (p := ⟨w.heap.size, 1, none⟩) (Mod.setCell (S := (· = g)) (p := ⟨w.heap.size, 0, none⟩) (Mod.setCell (S := (· = g)) (p := ⟨g, k * 3 + 2, none⟩) (Mod.setCell (S := (· = g)) (p := ⟨g, k * 3 + 1, none⟩) (Mod.setCell (S := (· = g)) (p := ⟨g, k * 3, none⟩) (Mod.ofBelow HB3.out) (.inl rfl) (.bool true)) (.inl rfl) ((.string x))) (.inl rfl) (.int .u32 (gen + 1))) (.inr (Nat.le_refl _)) (.int .i64 k)) (.inr (Nat.le_refl _)) (.int .u32 (gen + 1)))
  exact ⟨HH.out.turn hC (by simp) hM, hM⟩

theorem madeCells_get {z : Array Value} {n j : Nat} (hz : z.size = 3) (hj : j < n) : (madeCells z n)[j]? = z[j % 3]? := by
  have : j % 3 < z.size := by omega
  rw [Array.getElem?_eq_getElem this, ← getElem!_pos z (j % 3) this]
  simp [madeCells, hj, hz]

set_option maxRecDepth 20000 in
theorem new_any (n : Nat) (w : World) (h1 : 1 ≤ n) (h2 : n ≤ 4096) :
    Calls Try.prog 22 #[.int .i64 n] w fun e w' => ∃ b g, e = .returned (.tuple #[.pointer (some ⟨b, 0, none⟩), .int .i64 0]) ∧ w.heap.size ≤ b ∧ w.heap.size ≤ g ∧ SlabAt (fun x : ByteArray => (.string x)) 93 90 w' b g (List.replicate n ⟨false, (⟨#[]⟩ : ByteArray), 0⟩) ∧ Below w.heap.size w w' := by
  obtain ⟨i, hi, hz, hs, hby⟩ := info_parts (P := Try.prog) (e := 93) (z := .agg #[.bool false, (.string (⟨#[]⟩ : ByteArray)), .int .u32 0]) (size := 3) (bytes := 32) (by kernel_rfl)
  have HI := hid hi
  have HZ := hid hz
  have HS := hid hs
  have HY := hid hby
  clear hi hz hs hby
  go_enter Try.func22, Try.ntmps22
  go_wp2_with (at_make; go_loud (refine wpList_make_full _ rfl _ _ 86 rfl w.heap.size 93 i _ 3 Try.underlying86 HI.out HZ.out HS.out _ _ _ _ n rfl rfl rfl rfl (by rw [HY.out]; omega) (by simp [maxLen]; omega) (Nat.le_refl _) ?_))
  intro w1 hown hgr
  go_wp2
  go_ret2
  have hB1 : Below w.heap.size w w1 := ⟨hgr.os, hgr.tape, hgr.output, hgr.size, fun k hk => hgr.block k hk (by simp)⟩
  have hcl := hown.cellAt
  have hlt := (hown.lt w.heap.size rfl).2
  have hc : CellsAt (fun x : ByteArray => (.string x)) 93 w1 w.heap.size (List.replicate n ⟨false, (⟨#[]⟩ : ByteArray), 0⟩) := by
    refine ⟨?_, fun c hc => ?_⟩
    · rcases hown.2 with ⟨h, _⟩ | ⟨g', cap', cur, h, _, hg, _⟩
      · simp at h
      · simp only [Value.slice.injEq, Option.some.injEq, Addr.mk.injEq, and_true, true_and] at h
        obtain ⟨rfl, rfl⟩ := h
        refine ⟨cur, hg, fun j c hj => ?_⟩
        have hjn : j < n := by have := (List.getElem?_eq_some_iff.1 hj).1; simpa using this
        have hcc : c = ⟨false, (⟨#[]⟩ : ByteArray), 0⟩ := by
          have := List.mem_of_getElem? hj
          exact List.eq_of_mem_replicate this
        subst hcc
        have q : ∀ o, o < 3 → cur[j * 3 + o]? = (#[.bool false, (.string (⟨#[]⟩ : ByteArray)), .int .u32 0] : Array Value)[o]? := fun o ho => by
          rw [← cell_of hg, hcl (j * 3 + o) (by omega), ← Array.getElem?_toList.symm]
          have := madeCells_get (z := #[.bool false, (.string (⟨#[]⟩ : ByteArray)), .int .u32 0]) (n := n * 3) (j := j * 3 + o) rfl (by omega)
          rw [this, show (j * 3 + o) % 3 = o by omega]
        exact ⟨q 0 (by omega), q 1 (by omega), q 2 (by omega)⟩
    · have := List.eq_of_mem_replicate hc
      subst this
      exact ⟨by decide, by decide⟩
  refine ⟨w1.heap.size, w.heap.size, rfl, hgr.size, Nat.le_refl _, ⟨?_, hc.same (Below.heap_alloc _ _ _ hlt), by omega, by simpa using h1, by simpa using h2⟩, hB1.alloc hB1.size _⟩
  simpa using heap_new w1 _

end Go.Proofs.Ytmgiaedfonaefaa.S
