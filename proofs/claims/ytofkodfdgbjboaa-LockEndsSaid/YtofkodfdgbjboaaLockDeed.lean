/- A slice of deeds with locks that came in: its cells. -/
import Derived.Test.YtofkodfdgbjboaaLockAwake
import Derived.Test.YtofkodfdgbjboaaOpen
import Derived.ShutString
import Derived.ChangeOld
namespace Go.Proofs.Ytofkodfdgbjboaa
open Go.ChangeShapes Go.WideShapes Go.ChangeAt Go.RowKit Go.Burg Go.Joins
open Go.Burg.Lk

theorem own : ownKnob Try.prog.godebug = none := by kernel_rfl
theorem laidOut : laidOutB Try.prog = true := by kernel_rfl
theorem list4 {α : Type} (l : List α) (h : l.length = 4) : ∃ a b c d, l = [a, b, c, d] := by
  rcases l with _ | ⟨a, _ | ⟨b, _ | ⟨c, _ | ⟨d, _ | ⟨e, l⟩⟩⟩⟩⟩ <;> simp at h
  exact ⟨a, b, c, d, rfl⟩
theorem cellsDeed : Try.prog.cellsOf 38 = 4 := by kernel_rfl
/-- A deed. -/
structure LDeed where
  what : Int
  ref : RefK
  w : Wd
instance : Inhabited LDeed := ⟨⟨0, oneK, w0⟩⟩
def LDeed.cells (d : LDeed) : List Value := [.int .i64 d.what, .int .i64 d.ref.1.1, .int .u32 d.ref.1.2, .int .u64 d.w.1]
def GoodDeed (cs : List Value) : Prop := ∃ d : LDeed, cs = d.cells

section
variable {H : Type} {enc : TypeId × Value → H} {w : World} {base : Nat} {spare : Nat → Bool} {held : Bool}
theorem cell1 {k : IntKind} {T : TypeId} {n : Nat} {v : Value} {x : Option (DataW H × List MemPlace)} (ht : Try.prog.underlying T = some (.int k)) (hx : x.isSome = true) (h : DataW.trod enc Try.prog w base spare held n T [v] = x) : ∃ a, v = .int k a ∧ (Lit.int k a).wf = true := by
  obtain ⟨y, hy⟩ := Option.isSome_iff_exists.1 hx
  rw [hy] at h
  obtain ⟨a, h1, _, h2⟩ := DataW.trod_int ht h
  exact ⟨a, by simpa using h1, h2⟩
theorem wd_of {n : Int} (h : (Lit.int .u64 n).wf = true) : ∃ x : Wd, x.1 = n := by
  simp only [Lit.wf, Bool.and_eq_true, decide_eq_true_eq] at h
  exact ⟨⟨n, h.1, h.2⟩, rfl⟩

theorem good_deed (n : Nat) (cs : List Value) (x : DataW H × List MemPlace) (h : DataW.trod enc Try.prog w base spare held n 38 cs = some x) : GoodDeed cs := by
  obtain ⟨xs, m, _, _, hl, hxs, hf⟩ := DataW.trod_struct Try.underlying38 h
  rw [cellsDeed] at hl
  obtain ⟨c0, c1, c2, c3, rfl⟩ := list4 cs hl
  have hsz : xs.length = 3 := hxs
  have i0 : (xs[0]?).isSome = true := by simp [hsz]
  have i1 : (xs[1]?).isSome = true := by simp [hsz]
  have i2 : (xs[2]?).isSome = true := by simp [hsz]
  have e3 : Try.prog.cellsOf 3 = 1 := by kernel_rfl
  have e2 : Try.prog.cellsOf 30 = 2 := by kernel_rfl
  have e1 : Try.prog.cellsOf 28 = 1 := by kernel_rfl
  have e0 : Try.prog.cellsOf 24 = 1 := by kernel_rfl
  have h0 : DataW.trod enc Try.prog w base spare held m 3 [c0] = xs[0]? := by simpa [e3] using hf 0 _ rfl
  have h1 : DataW.trod enc Try.prog w base spare held m 30 [c1, c2] = xs[1]? := by simpa [e3, e2] using hf 1 _ rfl
  have h2 : DataW.trod enc Try.prog w base spare held m 24 [c3] = xs[2]? := by simpa [e3, e2, e0] using hf 2 _ rfl
  obtain ⟨y, hy⟩ := Option.isSome_iff_exists.1 i1
  rw [hy] at h1
  obtain ⟨ys, m', _, _, _, hys, hg⟩ := DataW.trod_struct Try.underlying30 h1
  have hsz2 : ys.length = 2 := hys
  have j0 : (ys[0]?).isSome = true := by simp [hsz2]
  have j1 : (ys[1]?).isSome = true := by simp [hsz2]
  have k0 : DataW.trod enc Try.prog w base spare held m' 3 [c1] = ys[0]? := by simpa [e3] using hg 0 _ rfl
  have k1 : DataW.trod enc Try.prog w base spare held m' 28 [c2] = ys[1]? := by simpa [e3, e1] using hg 1 _ rfl
  obtain ⟨a, rfl, _⟩ := cell1 Try.underlying3 i0 h0
  obtain ⟨s, rfl, ws⟩ := cell1 Try.underlying3 j0 k0
  obtain ⟨g, rfl, wg⟩ := cell1 Try.underlying28 j1 k1
  obtain ⟨q, rfl, wq⟩ := cell1 Try.underlying24 i2 h2
  obtain ⟨q, rfl⟩ := wd_of wq
  exact ⟨⟨a, ⟨(s, g), ws, wg⟩, q⟩, rfl⟩

def DeedsAt (w : World) (a : Option Addr) (len : Nat) (ds : Nat → LDeed) : Prop :=
  0 < len → ∃ bl off, a = some ⟨bl, off, none⟩ ∧ bl < w.heap.size ∧ ∀ i, i < len → w.cell? ⟨bl, off + i * 4, none⟩ = some (.int .i64 (ds i).what) ∧ w.cell? ⟨bl, off + i * 4 + 1, none⟩ = some (.int .i64 (ds i).ref.1.1) ∧
    w.cell? ⟨bl, off + i * 4 + 2, none⟩ = some (.int .u32 (ds i).ref.1.2) ∧ w.cell? ⟨bl, off + i * 4 + 3, none⟩ = some (.int .u64 (ds i).w.1)

theorem deeds_of {a : Option Addr} {len : Nat} (h : FlatAt w a len 4 GoodDeed) : ∃ ds, DeedsAt w a len ds := by
  by_cases hlen : 0 < len
  · obtain ⟨bl, off, ha, hbl, hall⟩ := h hlen
    have : ∀ i, i < len → ∃ d : LDeed, w.cell? ⟨bl, off + i * 4, none⟩ = some (.int .i64 d.what) ∧ w.cell? ⟨bl, off + i * 4 + 1, none⟩ = some (.int .i64 d.ref.1.1) ∧
        w.cell? ⟨bl, off + i * 4 + 2, none⟩ = some (.int .u32 d.ref.1.2) ∧ w.cell? ⟨bl, off + i * 4 + 3, none⟩ = some (.int .u64 d.w.1) := fun i hi => by
      obtain ⟨cs, ⟨d, rfl⟩, hj⟩ := hall i hi
      exact ⟨d, hj 0 (by simp), hj 1 (by simp), hj 2 (by simp), hj 3 (by simp)⟩
    obtain ⟨ds, hds⟩ := Deep.choose_lt this
    exact ⟨ds, fun _ => ⟨bl, off, ha, hbl, hds⟩⟩
  · exact ⟨fun _ => default, fun h => absurd h hlen⟩
end
end Go.Proofs.Ytofkodfdgbjboaa
