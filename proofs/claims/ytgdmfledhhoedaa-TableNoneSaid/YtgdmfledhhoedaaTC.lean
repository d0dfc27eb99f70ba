/- The tree: Plant, New; the table: New. -/
import Derived.Test.YtgdmfledhhoedaaTB
namespace Go.Proofs.Ytgdmfledhhoedaa.T
set_option maxRecDepth 8000
open Go.ChangeShapes Go.WideShapes Go.ChangeAt Go.RowKit Go.Burg
open Go.Burg.Lk
/-- An anchor's node. -/
def anchorN : Nd := ⟨5, ⟨#[]⟩, ⟨#[]⟩, ⟨#[]⟩, ⟨none, 0, 0⟩, ⟨none, 0, 0⟩, true, false⟩

theorem plant_at {t sb sg kb km k : Nat} {l : List (Cel Nd)} {L : List (RefK × Wd)} {c : Cel Nd} (w : World) (h : TreeAt w t sb sg kb km l L)
    (hF : First l (k : Int)) (hk : l[k]? = some c) (hr : c.room = true) (r : RefK) (hr1 : r.1.1 = k) (hr2 : r.1.2 = c.gen + 1) :
    Calls Try.prog 26 #[.pointer (some ⟨t, 0, none⟩)] w fun e w' => e = .returned (.tuple #[.agg #[.int .i64 k, .int .u32 (c.gen + 1)], .int .i64 0]) ∧ TreeAt w' t sb sg kb km (l.set k ⟨true, anchorN, c.gen + 1⟩) (K.addL L r).2 ∧ Mod (TOwn sg km) w w' := by
  have hA := h.alloc (.cells #[.int .i64 0, .int .u32 0] 36 (0, 0))
  have hN := heap_new w (.cells #[.int .i64 0, .int .u32 0] 36 (0, 0))
  have hM := hid (tmade_at _ hA.ht)
  have hT := hid (take_at 5 ⟨#[]⟩ ⟨#[]⟩ ⟨#[]⟩ none none 0 0 0 0 true _ hA hF hk hr r hr1 hr2)
  have h0 := hid h
  have HN := hid hN
  clear h hA hF hk hr hr1 hr2 hN
  have hno : ¬ TOwn sg km w.heap.size := fun e => by have := h0.out.hs.glt; have := h0.out.hk.lt; rcases e with e | e <;> omega
  go_enter Try.func26, Try.ntmps26
  go_wp2_with (first | (go_at_call 41; refine hM.out.mono ?_; rintro e w2 ⟨rfl, rfl⟩) | (go_at_call 45; refine hT.out.mono ?_; rintro e w2 ⟨rfl, hT2, hM2⟩; have hn := (hM2.block w.heap.size (by simp) hno).trans HN.out; have n0 := cell_of hn 0; have n1 := cell_of hn 1; have nf := free_of hn; clear hn))
  refine bodyPost_ret (v := .tuple #[.agg #[_, _], _]) (by simp [results, Try.results26, go_sem, n0, n1]) rfl ⟨rfl, ?_⟩
  have g1 := lt_of_block h0.out.ht
  have g2 := h0.out.hs.blt
  have g3 := h0.out.hs.glt
  have g4 := h0.out.hk.lt
  have hX := Mod.setCell (S := (· = w.heap.size)) (p := ⟨w.heap.size, 1, none⟩) (Mod.setCell (S := (· = w.heap.size)) (p := ⟨w.heap.size, 0, none⟩) (Mod.refl _ w2) (.inl rfl) (.int .i64 k)) (.inl rfl) (.int .u32 (c.gen + 1))
  have hM0 : Mod (TOwn sg km) w w2 := ((Mod.refl (TOwn sg km) w).alloc (.cells #[.int .i64 0, .int .u32 0] 36 (0, 0))).trans hM2 (fun _ _ h => h)
  exact ⟨hT2.mod hX (by omega) (by omega) (by omega) (by omega) (by omega), hM0.trans hX (fun i hi h => by omega)⟩

theorem tNew_at (n : Nat) (w : World) (h1 : 1 ≤ n) (h2 : n ≤ 4096) :
    Calls Try.prog 35 #[.int .i64 n] w fun e w' => ∃ t sb sg kb km, e = .returned (.tuple #[.pointer (some ⟨t, 0, none⟩), .int .i64 0]) ∧ TreeAt w' t sb sg kb km (List.replicate n ⟨false, Nd.zero, 0⟩) [] ∧ (w.heap.size ≤ t ∧ w.heap.size ≤ sb ∧ w.heap.size ≤ sg ∧ w.heap.size ≤ kb ∧ w.heap.size ≤ km) ∧ Below w.heap.size w w' := by
  have HS := hid (S.new_any n w h1 h2)
  have HK := hid (fun w => K.new_at w)
  go_enter Try.func35, Try.ntmps35
  go_wp2_with (first | (go_at_call 50; refine HS.out.mono ?_; rintro e w2 ⟨sb, sg, rfl, l1, l2, hS, hB2⟩; have hS := hid hS; have hB2 := hid hB2) | (go_at_call 51; refine (HK.out _).mono ?_; rintro e w3 ⟨kb, km, rfl, hK, l3, l4, hB3⟩; have hK := hid hK; have hB3 := hid hB3))
  go_ret2
  refine ⟨w3.heap.size, sb, sg, kb, km, rfl, ⟨heap_new _ _, (hS.out.keep hB3.out).alloc _, hK.out.alloc _⟩, ?_, ?_⟩
  · have := hB2.out.size
    have := hB3.out.size
    omega
  · exact (below_chain hB2.out hB3.out hB2.out.size).alloc (by have := hB2.out.size; have := hB3.out.size; omega) _

theorem flat_get {row : List Value} (hr : row.length = 4) : ∀ n i j, i < n → j < 4 → ((List.replicate n row).flatten)[i * 4 + j]? = row[j]? := by
  intro n
  induction n with
  | zero => intro i j h; omega
  | succ n ih =>
    intro i j hi hj
    rw [List.replicate_succ, List.flatten_cons]
    cases i with
    | zero => rw [Nat.zero_mul, Nat.zero_add, List.getElem?_append_left (by omega)]
    | succ i =>
      rw [List.getElem?_append_right (by omega), hr, show (i + 1) * 4 + j - 4 = i * 4 + j by omega]
      exact ih i j (by omega) hj
/-- A table of a tree: no tenants. -/
theorem tabNew_at (t : Nat) (w : World) : Calls Try.prog 4 #[.pointer (some ⟨t, 0, none⟩)] w fun e w' => ∃ x, e = .returned (.tuple #[.pointer (some ⟨x, 0, none⟩), .int .i64 0]) ∧ TabAt 42 w' x t (fun _ => Ten.zero) ∧ w.heap.size ≤ x ∧ Below w.heap.size w w' := by
  go_enter Try.func4, Try.ntmps4
  go_wp2
  go_ret2
  refine ⟨w.heap.size, rfl, ?_, Nat.le_refl _, (Below.refl _ _).alloc (Nat.le_refl _) _⟩
  refine ⟨_, heap_new _ _, rfl, fun i hi j hj => ?_⟩
  change (List.toArray (Value.pointer (some ⟨t, 0, none⟩) :: (List.replicate 17 (TRow Ten.zero)).flatten))[1 + i * 4 + j]? = (TRow Ten.zero)[j]?
  rw [List.getElem?_toArray, show 1 + i * 4 + j = (i * 4 + j) + 1 by omega, List.getElem?_cons_succ]
  exact flat_get rfl 17 i j hi hj

end Go.Proofs.Ytgdmfledhhoedaa.T
