/- SlabEnds: a full slab, plainly. -/
import Derived.Test.YtmgiaedfonaefaaSE2
namespace Go.Proofs.Ytmgiaedfonaefaa.Z
open Go.ChangeShapes Go.WideShapes Go.ChangeAt Go.RowKit Go.Burg Go.Shelf
open Go.Proofs.Ytmgiaedfonaefaa.C (Lv ups ups_yes ups_pre ups_zero lives)

/-- Taken up to j. -/
def fill (N j : Nat) : List (Cel Int) := (List.range j).map (fun i : Nat => (⟨true, (i : Int), 1⟩ : Cel Int)) ++ List.replicate (N - j) ⟨false, 0, 0⟩
theorem fill_zero (N : Nat) : fill N 0 = List.replicate N ⟨false, 0, 0⟩ := rfl
theorem fill_len {N j : Nat} (h : j ≤ N) : (fill N j).length = N := by simp [fill]; omega
theorem fill_in {N j i : Nat} (h : i < j) : (fill N j)[i]? = some ⟨true, (i : Int), 1⟩ := by
  unfold fill
  rw [List.getElem?_append_left (by simpa using h)]
  simp [h]
theorem fill_at {N j : Nat} (h : j < N) : (fill N j)[j]? = some ⟨false, 0, 0⟩ := by
  unfold fill
  rw [List.getElem?_append_right (by simp)]
  simp [List.getElem?_replicate]
  omega
theorem fill_first {N j : Nat} (h : j < N) : First (fill N j) (j : Int) :=
  .inl ⟨j, _, rfl, fill_at h, rfl, fun i hi d hd => by
    rw [fill_in hi] at hd
    cases hd
    rfl⟩
theorem fill_none (N : Nat) : First (fill N N) (-1) :=
  .inr ⟨rfl, fun j d hd => by
    have hj := (List.getElem?_eq_some_iff.1 hd).1
    rw [fill_len (Nat.le_refl _)] at hj
    rw [fill_in hj] at hd
    cases hd
    rfl⟩
theorem fill_set {N j : Nat} (h : j < N) : (fill N j).set j ⟨true, (j : Int), 0 + 1⟩ = fill N (j + 1) := by
  unfold fill
  rw [List.range_succ, List.map_append, List.set_append_right _ _ (by simp)]
  simp only [List.length_map, List.length_range, Nat.sub_self, List.map_cons, List.map_nil, List.append_assoc]
  congr 1
  obtain ⟨m, hm⟩ : ∃ m, N - j = m + 1 := ⟨N - j - 1, by omega⟩
  rw [hm, show N - (j + 1) = m by omega, List.replicate_succ]
  rfl

/-- What Free makes of the places. -/
def fr (l : List (Cel Int)) (s gen : Int) : List (Cel Int) :=
  match l[s.toNat]? with
  | some c => if 0 ≤ s ∧ c.is = true ∧ c.gen = gen then l.set s.toNat ⟨false, 0, c.gen⟩ else l
  | none => l
theorem fr_len (l : List (Cel Int)) (s gen : Int) : (fr l s gen).length = l.length := by
  unfold fr
  split
  · split <;> simp
  · rfl
theorem free_fr (l : List (Cel Int)) (s gen : Int) : ∃ k : Int, ∀ (W : World) (b g cp : Nat), SlabC (fun x : Int => .int .i64 x) 69 66 W b g cp l → Calls Try.prog 12 #[.pointer (some ⟨b, 0, none⟩), .agg #[.int .i64 s, .int .u32 gen]] W fun e W' => e = .returned (.int .i64 k) ∧ SlabC (fun x : Int => .int .i64 x) 69 66 W' b g cp (fr l s gen) ∧ Mod (· = g) W W' := by
  rcases C.live_or l s gen with ⟨i, c, hL⟩ | hD
  · refine ⟨0, fun W b g cp h => ?_⟩
    have e : fr l s gen = l.set i ⟨false, 0, c.gen⟩ := by
      obtain ⟨rfl, h2, h3, h4⟩ := hL
      unfold fr
      simp [h2, h3, h4]
    rw [e]
    exact C.free_live s gen W h hL
  · refine ⟨5, fun W b g cp h => ?_⟩
    have e : fr l s gen = l := by
      unfold fr
      split
      · rename_i c hc
        split
        · rename_i hh
          exact absurd ⟨by omega, hc, hh.2.1, hh.2.2⟩ (hD s.toNat c)
        · rfl
      · rfl
    rw [e]
    exact (C.free_dead s gen W h hD).mono fun e W' k => ⟨k.1, h.keep k.2, Mod.ofBelow k.2⟩

def step (l : List (Cel Int)) (x : Lv) : List (Cel Int) := fr (fr l x.1 x.2.1) (wrap64 (x.2.2 + 1)) 1

/-- The first three that come. -/
def three : List Lv := [(0, 1, 0), (1, 1, 1), (2, 1, 2)]
theorem three_pre {N : Nat} (h : 4 ≤ N) : three <+: lives (fill N N) := by
  have e : ups (fill N N) 3 = three := by
    rw [ups_yes (fill_in (show 2 < N by omega)) rfl, ups_yes (fill_in (show 1 < N by omega)) rfl, ups_yes (fill_in (show 0 < N by omega)) rfl, ups_zero]
    rfl
  rw [← e]
  exact ups_pre _ (by rw [fill_len (Nat.le_refl _)]; omega)
theorem pre_three {N : Nat} (h : 4 ≤ N) {pre : List Lv} (hp : pre <+: lives (fill N N)) (hl : pre.length ≤ 3) : pre <+: three :=
  List.prefix_of_prefix_length_le hp (three_pre h) hl
theorem lives_three {N : Nat} (h : 4 ≤ N) : 3 ≤ (lives (fill N N)).length := (three_pre h).length_le

/-- A full slab's cells: four, and the others. -/
theorem fill_four {N : Nat} (h : 4 ≤ N) : ∃ rest : List (Cel Int), fill N N = ⟨true, 0, 1⟩ :: ⟨true, 1, 1⟩ :: ⟨true, 2, 1⟩ :: ⟨true, 3, 1⟩ :: rest ∧ rest.countP Cel.is = N - 4 := by
  obtain ⟨m, rfl⟩ : ∃ m, N = m + 4 := ⟨N - 4, by omega⟩
  refine ⟨(List.range m).map (fun i : Nat => (⟨true, ((i + 4 : Nat) : Int), 1⟩ : Cel Int)), ?_, ?_⟩
  · unfold fill
    rw [Nat.sub_self, List.replicate_zero, List.append_nil, show m + 4 = 4 + m by omega, List.range_add, List.map_append]
    simp [List.range_succ, Function.comp_def]
    intro a _
    omega
  · rw [List.countP_map]
    simp [Function.comp_def]

theorem steps_count {N : Nat} (h : 4 ≤ N) : (three.foldl step (fill N N)).countP Cel.is = N - 4 := by
  obtain ⟨rest, e, hc⟩ := fill_four h
  have w1 : wrap64 ((0 : Int) + 1) = 1 := by first | rfl | (simp [wrap64]; done) | (unfold wrap64; omega)
  have w2 : wrap64 ((1 : Int) + 1) = 2 := by first | rfl | (simp [wrap64]; done) | (unfold wrap64; omega)
  have w3 : wrap64 ((2 : Int) + 1) = 3 := by first | rfl | (simp [wrap64]; done) | (unfold wrap64; omega)
  rw [e]
  simp only [three, step, List.foldl_cons, List.foldl_nil, w1, w2, w3]
  simp [fr, hc]
end Go.Proofs.Ytmgiaedfonaefaa.Z
