/- A slice of slab deeds that came in: its cells. -/
import Derived.Test.YtmgiaedfonaefaaSlabLaw0
namespace Go.Proofs.Ytmgiaedfonaefaa
open Go.ChangeShapes Go.WideShapes Go.ChangeAt Go.RowKit Go.Burg Go.Joins

theorem list5 {α : Type} (l : List α) (h : l.length = 5) : ∃ a b c d e, l = [a, b, c, d, e] := by
  rcases l with _ | ⟨a, _ | ⟨b, _ | ⟨c, _ | ⟨d, _ | ⟨e, _ | ⟨f, l⟩⟩⟩⟩⟩⟩ <;> simp at h
  exact ⟨a, b, c, d, e, rfl⟩
theorem cellsDeed : Try.prog.cellsOf 43 = 5 := by kernel_rfl
def GoodDeed (cs : List Value) : Prop := ∃ a b c s g : Int, cs = [.int .i64 a, .int .i64 b, .int .i64 c, .int .i64 s, .int .u32 g] ∧ 0 ≤ g ∧ g ≤ 4294967295

section
variable {H : Type} {enc : TypeId × Value → H} {w : World} {base : Nat} {spare : Nat → Bool} {held : Bool}
theorem cell1 {k : IntKind} {T : TypeId} {n : Nat} {v : Value} {x : Option (DataW H × List MemPlace)} (ht : Try.prog.underlying T = some (.int k)) (hx : x.isSome = true) (h : DataW.trod enc Try.prog w base spare held n T [v] = x) : ∃ a, v = .int k a ∧ (Lit.int k a).wf = true := by
  obtain ⟨y, hy⟩ := Option.isSome_iff_exists.1 hx
  rw [hy] at h
  obtain ⟨a, h1, _, h2⟩ := DataW.trod_int ht h
  exact ⟨a, by simpa using h1, h2⟩

theorem good_deed (n : Nat) (cs : List Value) (x : DataW H × List MemPlace) (h : DataW.trod enc Try.prog w base spare held n 43 cs = some x) : GoodDeed cs := by
  obtain ⟨xs, m, _, _, hl, hxs, hf⟩ := DataW.trod_struct Try.underlying43 h
  rw [cellsDeed] at hl
  obtain ⟨c0, c1, c2, c3, c4, rfl⟩ := list5 cs hl
  have hsz : xs.length = 4 := hxs
  have i0 : (xs[0]?).isSome = true := by simp [hsz]
  have i1 : (xs[1]?).isSome = true := by simp [hsz]
  have i2 : (xs[2]?).isSome = true := by simp [hsz]
  have i3 : (xs[3]?).isSome = true := by simp [hsz]
  have e3 : Try.prog.cellsOf 3 = 1 := by kernel_rfl
  have e2 : Try.prog.cellsOf 31 = 2 := by kernel_rfl
  have e1 : Try.prog.cellsOf 29 = 1 := by kernel_rfl
  have h0 : DataW.trod enc Try.prog w base spare held m 3 [c0] = xs[0]? := by simpa [e3] using hf 0 _ rfl
  have h1 : DataW.trod enc Try.prog w base spare held m 3 [c1] = xs[1]? := by simpa [e3] using hf 1 _ rfl
  have h2 : DataW.trod enc Try.prog w base spare held m 3 [c2] = xs[2]? := by simpa [e3] using hf 2 _ rfl
  have h3 : DataW.trod enc Try.prog w base spare held m 31 [c3, c4] = xs[3]? := by simpa [e3, e2] using hf 3 _ rfl
  obtain ⟨y, hy⟩ := Option.isSome_iff_exists.1 i3
  rw [hy] at h3
  obtain ⟨ys, m', _, _, _, hys, hg⟩ := DataW.trod_struct Try.underlying31 h3
  have hsz2 : ys.length = 2 := hys
  have j0 : (ys[0]?).isSome = true := by simp [hsz2]
  have j1 : (ys[1]?).isSome = true := by simp [hsz2]
  have k0 : DataW.trod enc Try.prog w base spare held m' 3 [c3] = ys[0]? := by simpa [e3] using hg 0 _ rfl
  have k1 : DataW.trod enc Try.prog w base spare held m' 29 [c4] = ys[1]? := by simpa [e3, e1] using hg 1 _ rfl
  obtain ⟨a, rfl, _⟩ := cell1 Try.underlying3 i0 h0
  obtain ⟨b, rfl, _⟩ := cell1 Try.underlying3 i1 h1
  obtain ⟨c, rfl, _⟩ := cell1 Try.underlying3 i2 h2
  obtain ⟨s, rfl, _⟩ := cell1 Try.underlying3 j0 k0
  obtain ⟨g, rfl, wg⟩ := cell1 Try.underlying29 j1 k1
  have hw : 0 ≤ g ∧ g ≤ 4294967295 := by
    simp only [Lit.wf, Bool.and_eq_true, decide_eq_true_eq] at wg
    exact ⟨wg.1, wg.2⟩
  exact ⟨a, b, c, s, g, rfl, hw.1, hw.2⟩

/-- A deed by its five numbers. -/
structure Deed where
  what : Int
  n : Int
  x : Int
  slot : Int
  gen : Int
instance : Inhabited Deed := ⟨⟨0, 0, 0, 0, 0⟩⟩

def DeedsAt5 (w : World) (a : Option Addr) (len : Nat) (ds : Nat → Deed) : Prop :=
  0 < len → ∃ bl off, a = some ⟨bl, off, none⟩ ∧ bl < w.heap.size ∧ ∀ i, i < len → w.cell? ⟨bl, off + i * 5, none⟩ = some (.int .i64 (ds i).what) ∧ w.cell? ⟨bl, off + i * 5 + 1, none⟩ = some (.int .i64 (ds i).n) ∧
    w.cell? ⟨bl, off + i * 5 + 2, none⟩ = some (.int .i64 (ds i).x) ∧ w.cell? ⟨bl, off + i * 5 + 3, none⟩ = some (.int .i64 (ds i).slot) ∧ w.cell? ⟨bl, off + i * 5 + 4, none⟩ = some (.int .u32 (ds i).gen) ∧ 0 ≤ (ds i).gen ∧ (ds i).gen ≤ 4294967295

theorem deeds_of {a : Option Addr} {len : Nat} (h : FlatAt w a len 5 GoodDeed) : ∃ ds, DeedsAt5 w a len ds := by
  by_cases hlen : 0 < len
  · obtain ⟨bl, off, ha, hbl, hall⟩ := h hlen
    have : ∀ i, i < len → ∃ d : Deed, w.cell? ⟨bl, off + i * 5, none⟩ = some (.int .i64 d.what) ∧ w.cell? ⟨bl, off + i * 5 + 1, none⟩ = some (.int .i64 d.n) ∧
        w.cell? ⟨bl, off + i * 5 + 2, none⟩ = some (.int .i64 d.x) ∧ w.cell? ⟨bl, off + i * 5 + 3, none⟩ = some (.int .i64 d.slot) ∧ w.cell? ⟨bl, off + i * 5 + 4, none⟩ = some (.int .u32 d.gen) ∧ 0 ≤ d.gen ∧ d.gen ≤ 4294967295 := fun i hi => by
      obtain ⟨cs, ⟨a, b, c, s, g, rfl, h0, h1⟩, hj⟩ := hall i hi
      exact ⟨⟨a, b, c, s, g⟩, hj 0 (by omega), hj 1 (by omega), hj 2 (by omega), hj 3 (by omega), hj 4 (by omega), h0, h1⟩
    obtain ⟨ds, hds⟩ := Deep.choose_lt this
    exact ⟨ds, fun _ => ⟨bl, off, ha, hbl, hds⟩⟩
  · exact ⟨fun _ => ⟨0, 0, 0, 0, 0⟩, fun h => absurd h hlen⟩
end
end Go.Proofs.Ytmgiaedfonaefaa
