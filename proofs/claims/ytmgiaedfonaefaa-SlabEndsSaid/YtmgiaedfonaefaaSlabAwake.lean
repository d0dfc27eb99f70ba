/- The chapter's example. -/
import Derived.Test.YtmgiaedfonaefaaSlabI4
import Derived.Test.YtmgiaedfonaefaaSlabS4
import Derived.Test.YtmgiaedfonaefaaPick
namespace Go.Proofs.Ytmgiaedfonaefaa
open Go.ChangeShapes Go.WideShapes Go.ChangeAt Go.RowKit Go.Burg

theorem mod_new {w w1 w2 : World} {g : Nat} (h : Mod (fun i => w.heap.size ≤ i) w w1) (h2 : Mod (· = g) w1 w2) (hg : w.heap.size ≤ g) : Mod (fun i => w.heap.size ≤ i) w w2 :=
  h.trans h2 fun i _ h => by subst h; exact hg
theorem mod_bel {S : Nat → Prop} {w w1 w2 : World} (h : Mod S w w1) (h2 : Below w1.heap.size w1 w2) : Mod S w w2 :=
  h.trans (S' := fun _ => False) (Mod.ofBelow h2) fun _ _ h => h.elim
theorem mod_end {w w1 : World} (h : Mod (fun i => w.heap.size ≤ i) w w1) : Below w.heap.size w w1 := h.below (Nat.le_refl _) fun i hi hh => by omega

def l0 : List (Cel ByteArray) := [⟨false, ⟨#[]⟩, 0⟩, ⟨false, ⟨#[]⟩, 0⟩]
def l1 : List (Cel ByteArray) := [⟨true, ⟨#[97]⟩, 1⟩, ⟨false, ⟨#[]⟩, 0⟩]
def l2 : List (Cel ByteArray) := [⟨true, ⟨#[97]⟩, 1⟩, ⟨true, ⟨#[98]⟩, 1⟩]
def l3 : List (Cel ByteArray) := [⟨false, ⟨#[]⟩, 1⟩, ⟨true, ⟨#[98]⟩, 1⟩]
def l4 : List (Cel ByteArray) := [⟨true, ⟨#[99]⟩, 2⟩, ⟨true, ⟨#[98]⟩, 1⟩]

theorem first_l1 : ∀ j, j < 1 → ∀ d : Cel ByteArray, l1[j]? = some d → d.room = false := fun j hj d hd => by
  obtain rfl : j = 0 := by omega
  cases hd
  rfl
theorem awake_any (w : World) : Calls Try.prog 7 #[] w fun e w' => e = .returned (.bool true) ∧ Below w.heap.size w w' := by
  go_enter Try.func7, Try.ntmps7
  go_wp2_with fail
  refine (S.new_any 2 _ (by decide) (by decide)).mono ?_
  rintro e w1 ⟨b, g, rfl, hb, hg, h1, hB⟩
  have hM1 : Mod (fun i => w.heap.size ≤ i) w w1 := Mod.ofBelow hB
  have h1 : SlabAt (fun x : ByteArray => .string x) 93 90 w1 b g l0 := h1
  clear hB
  go_wp2_with fail
  refine (S.take_yes (k := 0) (c := ⟨false, ⟨#[]⟩, 0⟩) ⟨#[97]⟩ _ h1 (.inl ⟨0, _, rfl, rfl, rfl, fun j hj => absurd hj (Nat.not_lt_zero _)⟩) rfl rfl).mono ?_
  rintro e w2 ⟨rfl, h2, hX⟩
  have h2 : SlabAt (fun x : ByteArray => .string x) 93 90 w2 b g l1 := h2
  have hM2 := mod_new hM1 hX hg
  have hA := heap_new w2 (.cells #[.int .i64 0, .int .u32 1] 31)
  have g2 := h2.glt
  have h2 := h2.alloc (.cells #[.int .i64 0, .int .u32 1] 31)
  clear hX hM1 h1
  go_wp2_with fail
  refine (S.take_yes (k := 1) (c := ⟨false, ⟨#[]⟩, 0⟩) ⟨#[98]⟩ _ h2 (.inl ⟨1, _, rfl, rfl, rfl, first_l1⟩) rfl rfl).mono ?_
  rintro e w3 ⟨rfl, h3, hX⟩
  have h3 : SlabAt (fun x : ByteArray => .string x) 93 90 w3 b g l2 := h3
  have hM3 := mod_new (hM2.alloc _) hX hg
  have hA := (hX.block w2.heap.size (by simp) (by omega)).trans hA
  have hAl := lt_of_block hA
  have hB := heap_new w3 (.cells #[.int .i64 1, .int .u32 1] 31)
  have hA := blk_alloc (o' := (.cells #[.int .i64 1, .int .u32 1] 31)) hA
  have g3 := h3.glt
  have h3 := h3.alloc (.cells #[.int .i64 1, .int .u32 1] 31)
  clear hX hM2 h2
  go_wp2_with fail
  refine (S.take_no ⟨#[99]⟩ _ h3 (.inr ⟨rfl, fun j d hd => by rcases j with _ | _ | j <;> cases hd <;> rfl⟩)).mono ?_
  rintro e w4 ⟨rfl, hX⟩
  have h4 := h3.keep hX
  have hM4 := mod_bel (hM3.alloc _) hX
  have hA := blk_below hA hX (by simp; omega)
  have hB := blk_below hB hX (by simp)
  have hA := blk_alloc (o' := (.cells #[.int .i64 0, .int .u32 0] 31)) hA
  have hB := blk_alloc (o' := (.cells #[.int .i64 0, .int .u32 0] 31)) hB
  have g4 := h4.glt
  have h4 := h4.alloc (.cells #[.int .i64 0, .int .u32 0] 31)
  have hs4 := hX.size
  simp at hs4
  clear hX hM3 h3
  have a0 := cell_of hA 0
  have a1 := cell_of hA 1
  go_wp2_with fail
  refine (S.free_live (i := 0) (c := ⟨true, ⟨#[97]⟩, 1⟩) 0 1 _ h4 ⟨rfl, rfl, rfl, rfl⟩).mono ?_
  rintro e w5 ⟨rfl, h5, hX⟩
  have h5 : SlabAt (fun x : ByteArray => .string x) 93 90 w5 b g l3 := h5
  have hM5 := mod_new (hM4.alloc _) hX hg
  have hA := (hX.block w2.heap.size (by simp; omega) (by omega)).trans hA
  have hB := (hX.block w3.heap.size (by simp; omega) (by omega)).trans hB
  have hs5 := hX.size
  simp at hs5
  clear hX hM4 h4 a0 a1
  go_wp2_with fail
  refine (S.take_yes (k := 0) (c := ⟨false, ⟨#[]⟩, 1⟩) ⟨#[99]⟩ _ h5 (.inl ⟨0, _, rfl, rfl, rfl, fun j hj => absurd hj (Nat.not_lt_zero _)⟩) rfl rfl).mono ?_
  rintro e w6 ⟨rfl, h6, hX⟩
  have h6 : SlabAt (fun x : ByteArray => .string x) 93 90 w6 b g l4 := h6
  have hM6 := mod_new hM5 hX hg
  have hs6 := hX.size
  have hA := (hX.block w2.heap.size (by omega) (by omega)).trans hA
  have hB := (hX.block w3.heap.size (by omega) (by omega)).trans hB
  have hA := blk_alloc (o' := (.cells #[.int .i64 0, .int .u32 2] 31)) hA
  have hB := blk_alloc (o' := (.cells #[.int .i64 0, .int .u32 2] 31)) hB
  have hD := heap_new w6 (.cells #[.int .i64 0, .int .u32 2] 31)
  have h6 := h6.alloc (.cells #[.int .i64 0, .int .u32 2] 31)
  clear hX hM5 h5
  have a0 := cell_of hA 0
  have a1 := cell_of hA 1
  go_wp2_with fail
  refine (S.get_dead 0 1 _ h6 (by
    rintro i c ⟨h1, h2, h3, h4⟩
    obtain rfl : i = 0 := by omega
    cases h2
    exact absurd h4 (by decide))).mono ?_
  rintro e w7 ⟨rfl, hX⟩
  have hM7 := mod_bel (hM6.alloc _) hX
  have hA := blk_below hA hX (by simp; omega)
  have hB := blk_below hB hX (by simp; omega)
  have hD := blk_below hD hX (by simp)
  clear hX hM6 h6 a0 a1
  have a0 := cell_of hA 0
  have a1 := cell_of hA 1
  have b0 := cell_of hB 0
  have b1 := cell_of hB 1
  have d0 := cell_of hD 0
  have d1 := cell_of hD 1
  go_wp2
  go_ret
  exact ⟨rfl, mod_end hM7⟩
end Go.Proofs.Ytmgiaedfonaefaa
