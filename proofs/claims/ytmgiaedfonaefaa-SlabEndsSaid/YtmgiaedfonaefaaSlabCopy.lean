/- The slab's Copy (slices.Clone of its cells). -/
import Derived.Test.YtmgiaedfonaefaaSlabC4
import Derived.OwnWalk
namespace Go.Proofs.Ytmgiaedfonaefaa.C
open Go.ChangeShapes Go.WideShapes Go.ChangeAt Go.RowKit Go.Burg

def flat (l : List (Cel Int)) : List Value := l.flatMap fun c => [.bool c.is, .int .i64 c.x, .int .u32 c.gen]
theorem flat_cons (c : Cel Int) (l : List (Cel Int)) : flat (c :: l) = .bool c.is :: .int .i64 c.x :: .int .u32 c.gen :: flat l := rfl
theorem flat_len : ∀ l : List (Cel Int), (flat l).length = l.length * 3
  | [] => rfl
  | c :: l => by rw [flat_cons]; simp [flat_len l]; omega
theorem flat_one : ∀ (l : List (Cel Int)) (u : Value), u ∈ flat l → u.oneCell' = true
  | [], u, h => by simp [flat] at h
  | c :: l, u, h => by
    rw [flat_cons] at h
    simp only [List.mem_cons] at h
    rcases h with rfl | rfl | rfl | h
    · rfl
    · rfl
    · rfl
    · exact flat_one l u h
theorem flat_at : ∀ (l : List (Cel Int)) (i : Nat) (c : Cel Int), l[i]? = some c → (flat l)[i * 3]? = some (.bool c.is) ∧ (flat l)[i * 3 + 1]? = some (.int .i64 c.x) ∧ (flat l)[i * 3 + 2]? = some (.int .u32 c.gen)
  | [], i, c, h => by simp at h
  | d :: l, 0, c, h => by
    simp at h
    subst h
    rw [flat_cons]
    exact ⟨rfl, rfl, rfl⟩
  | d :: l, i + 1, c, h => by
    have := flat_at l i c (by simpa using h)
    rw [flat_cons]
    rw [show (i + 1) * 3 = i * 3 + 3 by omega]
    simpa using this
theorem flat_some {l : List (Cel Int)} {j : Nat} {u : Value} (h : (flat l)[j]? = some u) : ∃ i c, l[i]? = some c ∧ ((j = i * 3 ∧ u = .bool c.is) ∨ (j = i * 3 + 1 ∧ u = .int .i64 c.x) ∨ (j = i * 3 + 2 ∧ u = .int .u32 c.gen)) := by
  have hj := (List.getElem?_eq_some_iff.1 h).1
  rw [flat_len] at hj
  have hi : j / 3 < l.length := by omega
  have hc := List.getElem?_eq_getElem hi
  obtain ⟨a0, a1, a2⟩ := flat_at l (j / 3) _ hc
  refine ⟨j / 3, _, hc, ?_⟩
  rcases (show j % 3 = 0 ∨ j % 3 = 1 ∨ j % 3 = 2 by omega) with e | e | e
  · have : j = j / 3 * 3 := by omega
    rw [this, a0] at h
    cases h
    exact .inl ⟨this, rfl⟩
  · have : j = j / 3 * 3 + 1 := by omega
    rw [this, a1] at h
    cases h
    exact .inr (.inl ⟨this, rfl⟩)
  · have : j = j / 3 * 3 + 2 := by omega
    rw [this, a2] at h
    cases h
    exact .inr (.inr ⟨this, rfl⟩)

theorem cells_of_row {w : World} {base n : Nat} {v : Value} {l : List (Cel Int)} (hn : l.length = n) (h : w.ownsRow base 69 3 v n (flat l)) (hp : 1 ≤ n) (hg : ∀ c ∈ l, 0 ≤ c.gen ∧ c.gen ≤ 4294967295) :
    ∃ g cap, v = .slice (some ⟨g, 0, none⟩) n cap ∧ base ≤ g ∧ n ≤ cap ∧ CellsAt (fun x : Int => .int .i64 x) 69 w g l := by
  obtain ⟨_, h⟩ := h
  rcases h with ⟨_, h⟩ | ⟨g, cap, cur, hv, hb, hh, h1, _, h3, h4⟩
  · omega
  · refine ⟨g, cap, hv, hb, h1, ⟨cur, hh, fun i c hi => ?_⟩, hg⟩
    have hil := (List.getElem?_eq_some_iff.1 hi).1
    obtain ⟨a0, a1, a2⟩ := flat_at l i c hi
    have q : ∀ j, j < n * 3 → cur[j]? = (flat l)[j]? := fun j hj => by
      rw [← h4, List.getElem?_take_of_lt hj, Array.getElem?_toList]
    exact ⟨(q _ (by omega)).trans a0, (q _ (by omega)).trans a1, (q _ (by omega)).trans a2⟩

set_option maxRecDepth 20000 in
theorem clone_any {g cp : Nat} {l : List (Cel Int)} (w : World) (h : CellsAt (fun x : Int => .int .i64 x) 69 w g l) (h1 : 1 ≤ l.length) (h2 : l.length ≤ 4096) :
    Calls Try.prog 43 #[.slice (some ⟨g, 0, none⟩) l.length cp] w fun e w' => ∃ g' cap, e = .returned (.slice (some ⟨g', 0, none⟩) l.length cap) ∧ w.heap.size ≤ g' ∧ l.length ≤ cap ∧ CellsAt (fun x : Int => .int .i64 x) 69 w' g' l ∧ Below w.heap.size w w' := by
  obtain ⟨i, hi, hz, hs, hby⟩ := info_parts (P := Try.prog) (e := 69) (z := .agg #[.bool false, .int .i64 0, .int .u32 0]) (size := 3) (bytes := 24) (by kernel_rfl)
  have HI := hid hi
  have HZ := hid hz
  have HS := hid hs
  have HY := hid hby
  have HG := hid h.gen
  have hgl := h.lt
  have hN := heap_new w (.cells #[] 69 (0, 0))
  have HO : Hid ((w.alloc (.cells #[] 69 (0, 0))).ownsRow w.heap.size 69 3 (.slice (some ⟨w.heap.size, 0, none⟩) 0 0) 0 []) := hid ⟨rfl, .inr ⟨w.heap.size, 0, #[], rfl, Nat.le_refl _, hN, Nat.le_refl _, Nat.zero_le _, rfl, rfl⟩⟩
  have hnews : ∀ j u, (flat l)[j]? = some u → (w.alloc (.cells #[] 69 (0, 0))).cell? ((⟨g, 0, none⟩ : Addr).add j) = some u := by
    intro j u hj
    obtain ⟨i, c, hi, hh⟩ := flat_some hj
    obtain ⟨a0, a1, a2, _⟩ := (h.same (w' := w.alloc (.cells #[] 69 (0, 0))) (Below.heap_alloc _ _ _ hgl)).cell hi
    have key : (⟨g, 0, none⟩ : Addr).add j = ⟨g, j, none⟩ := by unfold Addr.add; split <;> simp_all
    rw [key]
    rcases hh with ⟨rfl, rfl⟩ | ⟨rfl, rfl⟩ | ⟨rfl, rfl⟩
    · exact a0
    · exact a1
    · exact a2
  have HW := hid hnews
  clear hi hz hs hby hnews hN h
  have heq : ∀ (w : World), (binOp BinOp.eql 62 (.slice (some ⟨g, 0, none⟩) l.length cp) (.slice none 0 0)).run Try.prog w = .ok (.bool false) w := fun _ => rfl
  go_enter Try.func43, Try.ntmps43
  go_wp2_with (at_builtin; go_loud (refine wpList_append_own _ rfl (.tmp 5) (.tmp 6) 62 rfl w.heap.size 69 i _ 3 24 Try.underlying62 HI.out HZ.out HS.out HY.out rfl (by decide) (.slice (some ⟨w.heap.size, 0, none⟩) 0 0) 0 [] rfl HO.out ⟨g, 0, none⟩ l.length cp (flat l) rfl (flat_len l) HW.out (fun u hu => flat_one l u hu) (by simp [maxLen]; omega) (by omega) (by simp) ?_))
  intro v2 w2 hO2 hgr _
  obtain ⟨g', cap, rfl, hb', hcap, hC⟩ := cells_of_row rfl hO2 h1 HG.out
  go_wp2
  go_ret
  refine ⟨g', cap, rfl, hb', hcap, hC, ?_⟩
  exact ⟨hgr.os, hgr.tape, hgr.output, Nat.le_trans (by simp) hgr.size, fun k hk => (hgr.block k (by simp; omega) (by simp [Value.ownBlock]; omega)).trans (Below.heap_alloc _ _ _ hk)⟩

theorem copy_any {b g cp : Nat} {l : List (Cel Int)} (w : World) (h : SlabC (fun x : Int => .int .i64 x) 69 66 w b g cp l) :
    Calls Try.prog 38 #[.pointer (some ⟨b, 0, none⟩)] w fun e w' => ∃ b' g' cap, e = .returned (.pointer (some ⟨b', 0, none⟩)) ∧ w.heap.size ≤ b' ∧ w.heap.size ≤ g' ∧ SlabC (fun x : Int => .int .i64 x) 69 66 w' b' g' cap l ∧ Below w.heap.size w w' := by
  go_enter Try.func38, Try.ntmps38
  go_wp2_with fail
  refine (there_any _ h).mono ?_
  rintro e w1 ⟨rfl, hw1⟩
  have h1 := h.keep hw1
  obtain ⟨s0, sf⟩ := h1.head
  go_wp2_with fail
  refine (clone_any (cp := cp) _ h1.hc h1.pos h1.top).mono ?_
  rintro e w2 ⟨g', cap, rfl, hg', hcap, hC, hB⟩
  have hs1 := hw1.size
  have hs2 := hB.size
  have HN := hid (heap_new w2 (.cells #[.slice (some ⟨g', 0, none⟩) l.length cap] 66))
  have hgl := hC.lt
  go_wp2
  go_ret
  refine ⟨w2.heap.size, g', cap, rfl, by omega, by omega, ⟨HN.out, hC.same (Below.heap_alloc _ _ _ hgl), by omega, h.pos, h.top, hcap⟩, (hw1.trans (hB.mono hs1)).alloc (by omega) _⟩
end Go.Proofs.Ytmgiaedfonaefaa.C
