/- Keys that are structs: api.Ref. -/
import Derived.Test.YtgdmfledhhoedaaRows
import Derived.Test.YtgdmfledhhoedaaBase
import Derived.Test.YtgdmfledhhoedaaMaps
import Derived.DeepKeys5
namespace Go.Burg
open Go
theorem KeyOk.ofLaw {α : Type} {P : Program} {K : TypeId} {kf : α → Value} (KL : WideMaps.KeyLaw P K) (hk : ∀ x, ∃ l, keyOf P K (kf x) = some l) (hi : ∀ x y, kf x = kf y → x = y) : KeyOk P K kf where
  check w em x := by obtain ⟨l, hl⟩ := hk x; exact KL.check w em hl
  find w x es hes := by
    obtain ⟨l, hl⟩ := hk x
    exact KL.find w hl es (fun e he => by obtain ⟨y, hy⟩ := hes e he; rw [hy]; exact hk y)
  stays w x := by obtain ⟨l, hl⟩ := hk x; exact KL.stays w hl
  inj := hi
end Go.Burg
namespace Go.Proofs.Ytgdmfledhhoedaa
open Go.Burg
/-- A Ref: its place and its use. -/
abbrev RefK := { r : Int × Int // (Lit.int .i64 r.1).wf = true ∧ (Lit.int .u32 r.2).wf = true }
def refV (r : RefK) : Value := .agg #[.int .i64 r.1.1, .int .u32 r.1.2]
theorem ref_lits (n : Nat) (r : RefK) : Try.prog.keyLits (n + 2) 36 [.int .i64 r.1.1, .int .u32 r.1.2] = some [.int .i64 r.1.1, .int .u32 r.1.2] := by
  have c1 : Try.prog.cellsOf 36 = 2 := by kernel_rfl
  have c2 : Try.prog.cellsOf 3 = 1 := by kernel_rfl
  have c3 : Try.prog.cellsOf 23 = 1 := by kernel_rfl
  simp [Program.keyLits, Try.underlying36, Try.underlying3, Try.underlying23, c1, c2, c3, r.2.1, r.2.2]
theorem ref_key (r : RefK) : ∃ l, keyOf Try.prog 36 (refV r) = some l := by
  have c1 : Try.prog.cellsOf 36 = 2 := by kernel_rfl
  have hk : Try.prog.keyType 36 = true := of_decide_eq_true (by kernel_rfl)
  have h1 : 1 ≤ Try.prog.types.size := of_decide_eq_true (by kernel_rfl)
  obtain ⟨n, hn⟩ : ∃ n, Try.prog.types.size + 1 = n + 2 := ⟨Try.prog.types.size - 1, by omega⟩
  refine ⟨.string (keyBytes [.int .i64 r.1.1, .int .u32 r.1.2]), ?_⟩
  unfold keyOf
  simp only [Try.underlying36, hk, hn]
  simp [refV, Value.formed, Try.underlying36, c1, Value.cells, ref_lits]
theorem refKey : KeyOk Try.prog 36 refV := by
  refine KeyOk.ofLaw (deep_law_gate (by kernel_rfl) (of_decide_eq_true (by kernel_rfl)) (of_decide_eq_true (by kernel_rfl)) (by kernel_rfl) (by kernel_rfl)) ref_key (fun x y h => ?_)
  obtain ⟨⟨a, b⟩, hx⟩ := x
  obtain ⟨⟨c, d⟩, hy⟩ := y
  simp [refV] at h
  exact Subtype.ext (Prod.ext h.1 h.2)
end Go.Proofs.Ytgdmfledhhoedaa
