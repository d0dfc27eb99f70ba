/- The slab of places: New. -/
import Derived.Test.YtgdmfledhhoedaaN1
import Derived.OwnWalk
namespace Go.Proofs.Ytgdmfledhhoedaa.S
open Go.ChangeShapes Go.WideShapes Go.ChangeAt Go.RowKit Go.Burg

theorem madeCells_get {z : Array Value} {n j : Nat} (hz : z.size = 10) (hj : j < n) : (madeCells z n)[j]? = z[j % 10]? := by
  have : j % 10 < z.size := by omega
  rw [Array.getElem?_eq_getElem this, ← getElem!_pos z (j % 10) this]
  simp [madeCells, hj, hz]

set_option maxRecDepth 20000 in
theorem new_any (n : Nat) (w : World) (h1 : 1 ≤ n) (h2 : n ≤ 4096) :
    Calls Try.prog 50 #[.int .i64 n] w fun e w' => ∃ b g, e = .returned (.tuple #[.pointer (some ⟨b, 0, none⟩), .int .i64 0]) ∧ w.heap.size ≤ b ∧ w.heap.size ≤ g ∧ SlabN 148 137 w' b g (List.replicate n ⟨false, Nd.zero, 0⟩) ∧ Below w.heap.size w w' := by
  obtain ⟨i, hi, hz, hs, hby⟩ := info_parts (P := Try.prog) (e := 148) (z := .agg #[.bool false, .int .i64 0, .string ⟨#[]⟩, .string ⟨#[]⟩, .string ⟨#[]⟩, .slice none 0 0, .slice none 0 0, .bool false, .bool false, .int .u32 0]) (size := 10) (bytes := 128) (by kernel_rfl)
  have HI := hid hi
  have HZ := hid hz
  have HS := hid hs
  have HY := hid hby
  clear hi hz hs hby
  go_enter Try.func50, Try.ntmps50
  go_wp2_with (at_make; go_loud (refine wpList_make_full _ rfl _ _ 133 rfl w.heap.size 148 i _ 10 Try.underlying133 HI.out HZ.out HS.out _ _ _ _ n rfl rfl rfl rfl (by rw [HY.out]; omega) (by simp [maxLen]; omega) (Nat.le_refl _) ?_))
  intro w1 hown hgr
  go_wp2
  go_ret2
  have hB1 : Below w.heap.size w w1 := ⟨hgr.os, hgr.tape, hgr.output, hgr.size, fun k hk => hgr.block k hk (by simp)⟩
  have hcl := hown.cellAt
  have hlt := (hown.lt w.heap.size rfl).2
  have hc : CellsN 148 w1 w.heap.size (List.replicate n ⟨false, Nd.zero, 0⟩) := by
    refine ⟨?_, fun c hc => ?_⟩
    · rcases hown.2 with ⟨h, _⟩ | ⟨g', cap', cur, h, _, hg, _⟩
      · simp at h
      · simp only [Value.slice.injEq, Option.some.injEq, Addr.mk.injEq, and_true, true_and] at h
        obtain ⟨rfl, rfl⟩ := h
        refine ⟨cur, hg, fun j c hj o ho => ?_⟩
        have hjn : j < n := by have := (List.getElem?_eq_some_iff.1 hj).1; simpa using this
        have hcc : c = ⟨false, Nd.zero, 0⟩ := by
          have := List.mem_of_getElem? hj
          exact List.eq_of_mem_replicate this
        subst hcc
        rw [← cell_of hg, hcl (j * 10 + o) (by omega), ← Array.getElem?_toList.symm]
        have := madeCells_get (z := #[.bool false, .int .i64 0, .string ⟨#[]⟩, .string ⟨#[]⟩, .string ⟨#[]⟩, .slice none 0 0, .slice none 0 0, .bool false, .bool false, .int .u32 0]) (n := n * 10) (j := j * 10 + o) rfl (by omega)
        rw [this, show (j * 10 + o) % 10 = o by omega]
        exact List.getElem?_toArray
    · have := List.eq_of_mem_replicate hc
      subst this
      exact ⟨by decide, by decide⟩
  refine ⟨w1.heap.size, w.heap.size, rfl, hgr.size, Nat.le_refl _, ⟨?_, hc.same (Below.heap_alloc _ _ _ hlt), by omega, by simpa using h1, by simpa using h2⟩, hB1.alloc hB1.size _⟩
  simpa using heap_new w1 _
end Go.Proofs.Ytgdmfledhhoedaa.S
