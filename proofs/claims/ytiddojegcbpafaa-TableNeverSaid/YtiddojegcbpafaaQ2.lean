/- TableQuota: the calls that came in; what lies in memory at a round's head. -/
import Derived.Test.YtiddojegcbpafaaTF
import Derived.Test.YtiddojegcbpafaaQ1
import Derived.Test.YtiddojegcbpafaaOpen
import Derived.ShutString
import Derived.ChangeOld
namespace Go.Burg
open Go Go.RowKit
/-- An array of four in block b. -/
def Arr4 (w : World) (b : Nat) (T : TypeId) (f : Nat → Value) : Prop := w.heap[b]? = some (.cells #[f 0, f 1, f 2, f 3] T (0, 0))
section
variable {w w' : World} {b n : Nat} {T : TypeId} {f : Nat → Value}
theorem Arr4.get (h : Arr4 w b T f) (hn : n < 4) : w.cell? ⟨b, n, none⟩ = some (f n) := by
  rw [cell_of h]
  rcases (by omega : n = 0 ∨ n = 1 ∨ n = 2 ∨ n = 3) with rfl | rfl | rfl | rfl <;> rfl
theorem Arr4.free (h : Arr4 w b T f) (n : Nat) : w.frozen? ⟨b, n, none⟩ = false := free_of h n
theorem Arr4.lt (h : Arr4 w b T f) : b < w.heap.size := lt_of_block h
theorem Arr4.set (h : Arr4 w b T f) (hn : n < 4) (v : Value) : Arr4 (w.setCell ⟨b, n, none⟩ v) b T (Quota.set f n v) := by
  unfold Arr4
  rw [heap_set h]
  rcases (by omega : n = 0 ∨ n = 1 ∨ n = 2 ∨ n = 3) with rfl | rfl | rfl | rfl <;> simp [Quota.set]
theorem Arr4.same (h : Arr4 w b T f) (e : w'.heap[b]? = w.heap[b]?) : Arr4 w' b T f := e.trans h
theorem Arr4.ext {g : Nat → Value} (h : Arr4 w b T f) (e : ∀ i, i < 4 → f i = g i) : Arr4 w b T g := by
  unfold Arr4 at h ⊢
  rw [h, e 0 (by omega), e 1 (by omega), e 2 (by omega), e 3 (by omega)]
end
end Go.Burg
namespace Go.Proofs.Ytiddojegcbpafaa.T
set_option maxRecDepth 8000
open Go.ChangeShapes Go.WideShapes Go.ChangeAt Go.RowKit Go.Burg Go.Joins
open Go.Burg.Purse (St Inv)
open Go.Burg.Quota

theorem own : ownKnob Try.prog.godebug = none := by kernel_rfl
theorem laidOut : laidOutB Try.prog = true := by kernel_rfl
theorem list4 {α : Type} (l : List α) (h : l.length = 4) : ∃ a b c d, l = [a, b, c, d] := by
  rcases l with _ | ⟨a, _ | ⟨b, _ | ⟨c, _ | ⟨d, _ | ⟨e, l⟩⟩⟩⟩⟩ <;> simp at h
  exact ⟨a, b, c, d, rfl⟩
theorem cellsCall : Try.prog.cellsOf 48 = 4 := by kernel_rfl
/-- A call of a gate. -/
structure QC where
  g : Int
  w : Int
  k : Int
  b : Int
deriving Inhabited
def QC.cells (d : QC) : List Value := [.int .u8 d.g, .int .u8 d.w, .int .i8 d.k, .int .i8 d.b]
structure QC.Ok (d : QC) : Prop where
  g : 0 ≤ d.g ∧ d.g ≤ 255
  w : 0 ≤ d.w ∧ d.w ≤ 255
  k : -128 ≤ d.k ∧ d.k ≤ 127
  b : -128 ≤ d.b ∧ d.b ≤ 127
def GoodCall (cs : List Value) : Prop := ∃ d : QC, cs = d.cells ∧ d.Ok

section
variable {H : Type} {enc : TypeId × Value → H} {w : World} {base : Nat} {spare : Nat → Bool} {held : Bool}
theorem cell1 {k : IntKind} {T : TypeId} {n : Nat} {v : Value} {x : Option (DataW H × List MemPlace)} (ht : Try.prog.underlying T = some (.int k)) (hx : x.isSome = true) (h : DataW.trod enc Try.prog w base spare held n T [v] = x) : ∃ a, v = .int k a ∧ (Lit.int k a).wf = true := by
  obtain ⟨y, hy⟩ := Option.isSome_iff_exists.1 hx
  rw [hy] at h
  obtain ⟨a, h1, _, h2⟩ := DataW.trod_int ht h
  exact ⟨a, by simpa using h1, h2⟩
theorem u8_of {n : Int} (h : (Lit.int .u8 n).wf = true) : 0 ≤ n ∧ n ≤ 255 := by
  simp only [Lit.wf, Bool.and_eq_true, decide_eq_true_eq] at h
  exact h
theorem i8_of {n : Int} (h : (Lit.int .i8 n).wf = true) : -128 ≤ n ∧ n ≤ 127 := by
  simp only [Lit.wf, Bool.and_eq_true, decide_eq_true_eq] at h
  exact h

theorem good_call (n : Nat) (cs : List Value) (x : DataW H × List MemPlace) (h : DataW.trod enc Try.prog w base spare held n 48 cs = some x) : GoodCall cs := by
  obtain ⟨xs, m, _, _, hl, hxs, hf⟩ := DataW.trod_struct Try.underlying48 h
  rw [cellsCall] at hl
  obtain ⟨c0, c1, c2, c3, rfl⟩ := list4 cs hl
  have hsz : xs.length = 4 := hxs
  have i0 : (xs[0]?).isSome = true := by simp [hsz]
  have i1 : (xs[1]?).isSome = true := by simp [hsz]
  have i2 : (xs[2]?).isSome = true := by simp [hsz]
  have i3 : (xs[3]?).isSome = true := by simp [hsz]
  have e1 : Try.prog.cellsOf 5 = 1 := by kernel_rfl
  have e2 : Try.prog.cellsOf 46 = 1 := by kernel_rfl
  have h0 : DataW.trod enc Try.prog w base spare held m 5 [c0] = xs[0]? := by simpa [e1] using hf 0 _ rfl
  have h1 : DataW.trod enc Try.prog w base spare held m 5 [c1] = xs[1]? := by simpa [e1] using hf 1 _ rfl
  have h2 : DataW.trod enc Try.prog w base spare held m 46 [c2] = xs[2]? := by simpa [e1, e2] using hf 2 _ rfl
  have h3 : DataW.trod enc Try.prog w base spare held m 46 [c3] = xs[3]? := by simpa [e1, e2] using hf 3 _ rfl
  obtain ⟨a, rfl, wa⟩ := cell1 Try.underlying5 i0 h0
  obtain ⟨b, rfl, wb⟩ := cell1 Try.underlying5 i1 h1
  obtain ⟨c, rfl, wc⟩ := cell1 Try.underlying46 i2 h2
  obtain ⟨d, rfl, wd⟩ := cell1 Try.underlying46 i3 h3
  exact ⟨⟨a, b, c, d⟩, rfl, u8_of wa, u8_of wb, i8_of wc, i8_of wd⟩

def CallsAt (w : World) (a : Option Addr) (len : Nat) (ds : Nat → QC) : Prop :=
  0 < len → ∃ bl off, a = some ⟨bl, off, none⟩ ∧ bl < w.heap.size ∧ ∀ i, i < len → (w.cell? ⟨bl, off + i * 4, none⟩ = some (.int .u8 (ds i).g) ∧ w.cell? ⟨bl, off + i * 4 + 1, none⟩ = some (.int .u8 (ds i).w) ∧
    w.cell? ⟨bl, off + i * 4 + 2, none⟩ = some (.int .i8 (ds i).k) ∧ w.cell? ⟨bl, off + i * 4 + 3, none⟩ = some (.int .i8 (ds i).b)) ∧ (ds i).Ok

theorem calls_of {a : Option Addr} {len : Nat} (h : FlatAt w a len 4 GoodCall) : ∃ ds, CallsAt w a len ds := by
  by_cases hlen : 0 < len
  · obtain ⟨bl, off, ha, hbl, hall⟩ := h hlen
    have : ∀ i, i < len → ∃ d : QC, (w.cell? ⟨bl, off + i * 4, none⟩ = some (.int .u8 d.g) ∧ w.cell? ⟨bl, off + i * 4 + 1, none⟩ = some (.int .u8 d.w) ∧
        w.cell? ⟨bl, off + i * 4 + 2, none⟩ = some (.int .i8 d.k) ∧ w.cell? ⟨bl, off + i * 4 + 3, none⟩ = some (.int .i8 d.b)) ∧ d.Ok := fun i hi => by
      obtain ⟨cs, ⟨d, rfl, ok⟩, hj⟩ := hall i hi
      exact ⟨d, ⟨hj 0 (by simp), hj 1 (by simp), hj 2 (by simp), hj 3 (by simp)⟩, ok⟩
    obtain ⟨ds, hds⟩ := Deep.choose_lt this
    exact ⟨ds, fun _ => ⟨bl, off, ha, hbl, hds⟩⟩
  · exact ⟨fun _ => default, fun h => absurd h hlen⟩

theorem call_facts {w wr : World} {a : Option Addr} {len k : Nat} {ds : Nat → QC} (hD : CallsAt w a len ds) (hB : Below w.heap.size w wr) (hk : k < len) :
    ∃ bl off, a = some ⟨bl, off, none⟩ ∧ bl < w.heap.size ∧ (wr.cell? ⟨bl, off + k * 4, none⟩ = some (.int .u8 (ds k).g) ∧ wr.cell? ⟨bl, off + k * 4 + 1, none⟩ = some (.int .u8 (ds k).w) ∧
    wr.cell? ⟨bl, off + k * 4 + 2, none⟩ = some (.int .i8 (ds k).k) ∧ wr.cell? ⟨bl, off + k * 4 + 3, none⟩ = some (.int .i8 (ds k).b)) ∧ (ds k).Ok := by
  obtain ⟨bl, off, ha, hbl, hall⟩ := hD (by omega)
  obtain ⟨⟨d0, d1, d2, d3⟩, ok⟩ := hall k hk
  have hc : ∀ j, wr.cell? ⟨bl, j, none⟩ = w.cell? ⟨bl, j, none⟩ := fun j => World.cell?_of_block (w := w) (hB.block bl hbl)
  exact ⟨bl, off, ha, hbl, ⟨(hc _).trans d0, (hc _).trans d1, (hc _).trans d2, (hc _).trans d3⟩, ok⟩
end
end Go.Proofs.Ytiddojegcbpafaa.T
