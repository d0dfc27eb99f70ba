/- The reference's own, Refund. -/
import Derived.Test.YtkdimkaladbnpaaRef2
import Derived.Laws.AppendOwnNone
namespace Go.Proofs.Ytkdimkaladbnpaa
open Go.ChangeShapes Go.WideShapes Go.ChangeAt Go.RowKit Go.Burg
open Go.Burg.Purse
variable {r : RSt} {v : Value}

theorem own_same {w w' : World} {base size n : Nat} {e : TypeId} {v : Value} {xs : List Value} (h : w.ownsRow base e size v n xs) (k : ∀ g, v.ownBlock = some g → w'.heap[g]? = w.heap[g]?) : w'.ownsRow base e size v n xs := by
  refine ⟨h.1, ?_⟩
  rcases h.2 with hn | ⟨g, cap, cur, rfl, hb, hgg, rest⟩
  · exact .inl hn
  · exact .inr ⟨g, cap, cur, rfl, hb, (k g rfl).trans hgg, rest⟩
theorem own_less {w : World} {base base' size n : Nat} {e : TypeId} {v : Value} {xs : List Value} (h : w.ownsRow base e size v n xs) (k : base' ≤ base) : w.ownsRow base' e size v n xs := by
  refine ⟨h.1, ?_⟩
  rcases h.2 with hn | ⟨g, cap, cur, rfl, hb, rest⟩
  · exact .inl hn
  · exact .inr ⟨g, cap, cur, rfl, by omega, rest⟩
theorem own_more {w : World} {base base' size n : Nat} {e : TypeId} {v : Value} {xs : List Value} (h : w.ownsRow base e size v n xs) (k : ∀ g, v.ownBlock = some g → base' ≤ g) : w.ownsRow base' e size v n xs := by
  refine ⟨h.1, ?_⟩
  rcases h.2 with hn | ⟨g, cap, cur, rfl, hb, rest⟩
  · exact .inl hn
  · exact .inr ⟨g, cap, cur, rfl, k g rfl, rest⟩
/-- A store into another block. -/
theorem own_set {w : World} {base size n : Nat} {e : TypeId} {v : Value} {xs : List Value} (h : w.ownsRow base e size v n xs) {p : Addr} (hp : ∀ g, v.ownBlock = some g → g ≠ p.block) (u : Value) : (w.setCell p u).ownsRow base e size v n xs :=
  own_same h fun g hg => Below.heap_setCell _ _ _ _ (hp g hg)


theorem TkAt.two {w : World} {v : Value} {T : List Tk} (h : TkAt w v T) : (v = .slice none 0 0 ∧ T = []) ∨ ∃ g cap, v = .slice (some ⟨g, 0, none⟩) T.length cap ∧ g < w.heap.size ∧ T.length ≤ cap ∧ cap ≤ maxLen := by
  rcases h.2 with ⟨rfl, h0⟩ | ⟨g, cap, cur, rfl, _, hg, h1, h2, _⟩
  · exact .inl ⟨rfl, List.length_eq_zero_iff.1 h0⟩
  · exact .inr ⟨g, cap, rfl, lt_of_block hg, h1, h2⟩
theorem one_tk (T : List Tk) : ∀ u ∈ tkOf T, u.oneCell' = true := by
  intro u hu
  simp only [tkOf, List.mem_flatMap] at hu
  obtain ⟨t, _, ht⟩ := hu
  simp at ht
  rcases ht with rfl | rfl | rfl <;> rfl
theorem below_grown {B : Nat} {a b c : World} {row : Option Nat} (h : Below B a b) (g : b.grownBy c row) (hr : ∀ k, row = some k → B ≤ k) (hs : B ≤ b.heap.size) : Below B a c :=
  h.trans ⟨g.os, g.tape, g.output, g.size, fun k hk => g.block k (by omega) (fun e => by have := hr k e.symm; omega)⟩


set_option maxHeartbeats 400000 in
theorem rown_any (xk xb hk hb : Int) (T : List Tk) (w : World) (h : TkAt w v T) (hn : T.length ≤ 1000) :
    Calls Try.prog 49 #[.agg #[.int .u64 xk, .int .u64 xb, .int .u64 hk, .int .u64 hb, v]] w fun e w' => ∃ v', e = .returned (.agg #[.int .u64 xk, .int .u64 xb, .int .u64 hk, .int .u64 hb, v']) ∧ w'.ownsRow (w.heap.size + 2) 73 3 v' T.length (tkOf T) ∧ Below w.heap.size w w' := by
  obtain ⟨it, hit, hz, hsz, hby⟩ := info_parts (P := Try.prog) (e := 73) (z := .agg #[.int .u64 0, .int .u64 0, .bool false]) (size := 3) (bytes := 24) (by kernel_rfl)
  have HI := hid (And.intro hit (And.intro hz (And.intro hsz hby)))
  clear hit hz hsz hby
  have hO := World.ownsRow_lit (e := 73) (size := 3) (base := w.heap.size + 2) ((w.alloc (.cells #[.int .u64 xk, .int .u64 xb, .int .u64 hk, .int .u64 hb, v] 39)).alloc (.cells #[.int .u64 0, .int .u64 0, .int .u64 0, .int .u64 0, .slice none 0 0] 39)) #[] 0 (by simp) (by simp [maxLen]) rfl
  rw [show ((w.alloc (.cells #[.int .u64 xk, .int .u64 xb, .int .u64 hk, .int .u64 hb, v] 39)).alloc (.cells #[.int .u64 0, .int .u64 0, .int .u64 0, .int .u64 0, .slice none 0 0] 39)).heap.size = w.heap.size + 2 by simp] at hO
  have HO := hid hO
  have H0 := hid (blk_alloc (o' := (.cells #[] 73)) (blk_alloc (o' := (.cells #[.int .u64 0, .int .u64 0, .int .u64 0, .int .u64 0, .slice none 0 0] 39)) (heap_new w (.cells #[.int .u64 xk, .int .u64 xb, .int .u64 hk, .int .u64 hb, v] 39))))
  have h1 : (((w.alloc (.cells #[.int .u64 xk, .int .u64 xb, .int .u64 hk, .int .u64 hb, v] 39)).alloc (.cells #[.int .u64 0, .int .u64 0, .int .u64 0, .int .u64 0, .slice none 0 0] 39)).alloc (.cells #[] 73)).heap[w.heap.size + 1]? = _ := blk_alloc (o' := (.cells #[] 73)) (heap_at (.cells #[.int .u64 0, .int .u64 0, .int .u64 0, .int .u64 0, .slice none 0 0] 39) (by simp))
  have H1 := hid h1
  have HW : Hid (Below w.heap.size w (((w.alloc (.cells #[.int .u64 xk, .int .u64 xb, .int .u64 hk, .int .u64 hb, v] 39)).alloc (.cells #[.int .u64 0, .int .u64 0, .int .u64 0, .int .u64 0, .slice none 0 0] 39)).alloc (.cells #[] 73))) := hid ((((Below.refl _ _).alloc (Nat.le_refl _) _).alloc (by simp) _).alloc (by simp; omega) _)
  have HT := hid (((h.alloc (.cells #[.int .u64 xk, .int .u64 xb, .int .u64 hk, .int .u64 hb, v] 39)).alloc (.cells #[.int .u64 0, .int .u64 0, .int .u64 0, .int .u64 0, .slice none 0 0] 39)).alloc (.cells #[] 73))
  clear hO h1
  rcases h.two with ⟨rfl, rfl⟩ | ⟨g, cap, rfl, hg, hc1, hc2⟩
  · clear h
    have k0 := H0.out
    have k1 := H1.out
    have hsz := lt_of_block k1
    go_enter Try.func49, Try.ntmps49
    go_wp2_with (at_builtin; go_loud (refine wpList_append_own_none rfl (.tmp 3) (.tmp 5) 37 rfl (w.heap.size + 2) 73 it 3 Try.underlying37 HI.out.1 _ 0 [] rfl HO.out rfl ?_))
    go_wp2_with fail
    refine bodyPost_ret (v := .agg #[.int .u64 xk, .int .u64 xb, .int .u64 hk, .int .u64 hb, .slice (some ⟨w.heap.size + 2, 0, none⟩) 0 0]) (by simp [results, Try.results49, go_sem]) rfl ⟨_, rfl, ?_, ?_⟩
    · have hL := World.ownsRow_lit (e := 73) (size := 3) (base := w.heap.size + 2) ((w.alloc (.cells #[.int .u64 xk, .int .u64 xb, .int .u64 hk, .int .u64 hb, .slice (some ⟨w.heap.size + 1 + 1, 0, none⟩) 0 0] 39)).alloc (.cells #[.int .u64 xk, .int .u64 xb, .int .u64 hk, .int .u64 hb, .slice (some ⟨w.heap.size + 1 + 1, 0, none⟩) 0 0] 39)) #[] 0 (by simp) (by simp [maxLen]) rfl
      rw [show ((w.alloc (.cells #[.int .u64 xk, .int .u64 xb, .int .u64 hk, .int .u64 hb, .slice (some ⟨w.heap.size + 1 + 1, 0, none⟩) 0 0] 39)).alloc (.cells #[.int .u64 xk, .int .u64 xb, .int .u64 hk, .int .u64 hb, .slice (some ⟨w.heap.size + 1 + 1, 0, none⟩) 0 0] 39)).heap.size = w.heap.size + 2 by simp] at hL
      exact hL
    · (repeat (first | exact Below.refl _ _ | assumption | refine Below.drew ?_ | refine Below.setCell ?_ (by first | (simp; done) | (simp; omega)) _ | refine Below.alloc ?_ (by first | exact Nat.le_refl _ | (simp; done) | (simp; omega)) _))
  · unfold maxLen at hc2
    have HN := hid (show ∀ j u, (tkOf T)[j]? = some u → ((((w.alloc (.cells #[.int .u64 xk, .int .u64 xb, .int .u64 hk, .int .u64 hb, .slice (some ⟨g, 0, none⟩) T.length cap] 39)).alloc (.cells #[.int .u64 0, .int .u64 0, .int .u64 0, .int .u64 0, .slice none 0 0] 39)).alloc (.cells #[] 73))).cell? ((⟨g, 0, none⟩ : Addr).add j) = some u from fun j u hj => World.ownsRow.cells HT.out (g := g) rfl j u hj)
    have H1C := hid (one_tk T)
    clear h
    go_enter Try.func49, Try.ntmps49
    go_wp2_with (at_builtin; go_loud (refine wpList_append_own _ rfl (.tmp 3) (.tmp 5) 37 rfl (w.heap.size + 2) 73 it _ 3 24 Try.underlying37 HI.out.1 HI.out.2.1 HI.out.2.2.1 HI.out.2.2.2 rfl (by decide) _ 0 [] rfl HO.out ⟨g, 0, none⟩ T.length cap (tkOf T) rfl (tkOf_len _) HN.out H1C.out (by simp [maxLen]; omega) (by omega) (by simp) ?_))
    intro v1 w1 hO1 hgr _
    have hB1 := below_grown HW.out hgr (fun k hk => by simp [Value.ownBlock] at hk; omega) (by simp; omega)
    have k0 := (hgr.block w.heap.size (by simp; omega) (by simp [Value.ownBlock]; omega)).trans H0.out
    have k1 := (hgr.block (w.heap.size + 1) (by simp) (by simp [Value.ownBlock])).trans H1.out
    have a0 := cell_of k0 0
    have a1 := cell_of k0 1
    have a2 := cell_of k0 2
    have a3 := cell_of k0 3
    have a4 := cell_of k0 4
    have af := free_of k0
    have m0 := cell_of k1 0
    have m1 := cell_of k1 1
    have m2 := cell_of k1 2
    have m3 := cell_of k1 3
    have m4 := cell_of k1 4
    have mf := free_of k1
    have hsz := lt_of_block k1
    have hs0 := lt_of_block k0
    have HO1 := hid hO1
    have hone : v1.oneCell' = true := by
      rcases hO1.2 with ⟨rfl, _⟩ | ⟨_, _, _, rfl, _⟩ <;> rfl
    obtain ⟨a5, c5, rfl⟩ : ∃ a5 c5, v1 = .slice a5 T.length c5 := by
      rcases hO1.2 with ⟨rfl, h0⟩ | ⟨_, _, _, rfl, _⟩
      · exact ⟨_, _, by rw [h0]⟩
      · exact ⟨_, _, rfl⟩
    clear k0 k1 hO1 hgr hone
    go_wp2_with fail
    refine bodyPost_ret (v := .agg #[.int .u64 xk, .int .u64 xb, .int .u64 hk, .int .u64 hb, .slice a5 T.length c5]) (by simp [results, Try.results49, go_sem, m0, m1, m2, m3, m4]) rfl ⟨_, rfl, ?_, by (repeat (first | with_reducible exact hB1 | with_reducible refine Below.setCell ?_ (by first | (simp; done) | (simp; omega)) _ | with_reducible refine Below.alloc ?_ (by first | (simp; done) | (simp; omega)) _ | with_reducible refine Below.drew ?_))⟩
    have hne : ∀ (p : Addr), p.block < w.heap.size + 2 → ∀ g, (Value.slice a5 T.length c5).ownBlock = some g → g ≠ p.block := fun p hp g hg => by have := (HO1.out.lt g hg).1; omega
    repeat (refine own_set ?_ (hne _ (by simp)) _)
    exact HO1.out
end Go.Proofs.Ytkdimkaladbnpaa
