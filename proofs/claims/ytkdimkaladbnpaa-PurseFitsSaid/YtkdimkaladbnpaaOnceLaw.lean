/- PurseOnce, for every input: the law returns true, and its arguments read as they did. -/
import Derived.Test.YtkdimkaladbnpaaPurseOnce
import Derived.Test.YtkdimkaladbnpaaOpen
import Derived.ShutString
import Derived.ChangeOld
namespace Go.Proofs.Ytkdimkaladbnpaa
open Go.ChangeShapes Go.WideShapes Go.ChangeAt Go.RowKit Go.Burg Go.Joins
open Go.Burg.Purse (big)

theorem own : ownKnob Try.prog.godebug = none := by kernel_rfl
theorem laidOut : laidOutB Try.prog = true := by kernel_rfl
theorem cellsLim : Try.prog.cellsOf 24 = 2 := by kernel_rfl
theorem cellsDeed : Try.prog.cellsOf 33 = 4 := by kernel_rfl

/-- The cells of a deed. -/
def GoodDeed (cs : List Value) : Prop := ∃ a b c d : Int, cs = [.int .i64 a, .int .i64 b, .int .u64 c, .int .u64 d] ∧ 0 ≤ c ∧ 0 ≤ d

theorem u64_bounds {n : Int} (h : (Lit.int .u64 n).wf = true) : 0 ≤ n ∧ n ≤ big := by
  simp only [Lit.wf, Bool.and_eq_true, decide_eq_true_eq] at h
  exact ⟨h.1, h.2⟩

section
variable {H : Type} {enc : TypeId × Value → H} {w : World} {base : Nat} {spare : Nat → Bool} {held : Bool}

theorem cell1 {k : IntKind} {T : TypeId} {n : Nat} {v : Value} {x : Option (DataW H × List MemPlace)} (ht : Try.prog.underlying T = some (.int k)) (hx : x.isSome = true) (h : DataW.trod enc Try.prog w base spare held n T [v] = x) : ∃ a, v = .int k a ∧ (Lit.int k a).wf = true := by
  obtain ⟨y, hy⟩ := Option.isSome_iff_exists.1 hx
  rw [hy] at h
  obtain ⟨a, h1, _, h2⟩ := DataW.trod_int ht h
  exact ⟨a, by simpa using h1, h2⟩

theorem good_deed (n : Nat) (cs : List Value) (x : DataW H × List MemPlace) (h : DataW.trod enc Try.prog w base spare held n 33 cs = some x) : GoodDeed cs := by
  obtain ⟨xs, m, _, _, hl, hxs, hf⟩ := DataW.trod_struct Try.underlying33 h
  rw [cellsDeed] at hl
  obtain ⟨c0, c1, c2, c3, rfl⟩ : ∃ c0 c1 c2 c3, cs = [c0, c1, c2, c3] := by
    match cs, hl with
    | [a, b, c, d], _ => exact ⟨a, b, c, d, rfl⟩
  have hsz : xs.length = 4 := hxs
  have i0 : (xs[0]?).isSome = true := by simp [hsz]
  have i1 : (xs[1]?).isSome = true := by simp [hsz]
  have i2 : (xs[2]?).isSome = true := by simp [hsz]
  have i3 : (xs[3]?).isSome = true := by simp [hsz]
  have e3 : Try.prog.cellsOf 3 = 1 := by kernel_rfl
  have e22 : Try.prog.cellsOf 22 = 1 := by kernel_rfl
  have h0 : DataW.trod enc Try.prog w base spare held m 3 [c0] = xs[0]? := by simpa [e3] using hf 0 _ rfl
  have h1 : DataW.trod enc Try.prog w base spare held m 3 [c1] = xs[1]? := by simpa [e3] using hf 1 _ rfl
  have h2 : DataW.trod enc Try.prog w base spare held m 22 [c2] = xs[2]? := by simpa [e22] using hf 2 _ rfl
  have h3 : DataW.trod enc Try.prog w base spare held m 22 [c3] = xs[3]? := by simpa [e22] using hf 3 _ rfl
  obtain ⟨a, rfl, _⟩ := cell1 Try.underlying3 i0 h0
  obtain ⟨b, rfl, _⟩ := cell1 Try.underlying3 i1 h1
  obtain ⟨c, rfl, wc⟩ := cell1 Try.underlying22 i2 h2
  obtain ⟨d, rfl, wd⟩ := cell1 Try.underlying22 i3 h3
  exact ⟨a, b, c, d, rfl, (u64_bounds wc).1, (u64_bounds wd).1⟩

theorem deeds_of {a : Option Addr} {len : Nat} (h : FlatAt w a len 4 GoodDeed) : ∃ ds, DeedsAt w a len ds := by
  by_cases hlen : 0 < len
  · obtain ⟨bl, off, ha, hbl, hall⟩ := h hlen
    have : ∀ i, i < len → ∃ d : Int × Int × Int × Int, (w.cell? ⟨bl, off + i * 4, none⟩ = some (.int .i64 d.1) ∧ w.cell? ⟨bl, off + i * 4 + 1, none⟩ = some (.int .i64 d.2.1) ∧
        w.cell? ⟨bl, off + i * 4 + 2, none⟩ = some (.int .u64 d.2.2.1) ∧ w.cell? ⟨bl, off + i * 4 + 3, none⟩ = some (.int .u64 d.2.2.2)) ∧ 0 ≤ d.2.2.1 ∧ 0 ≤ d.2.2.2 := fun i hi => by
      obtain ⟨cs, ⟨x, y, z, u, rfl, hz, hu⟩, hj⟩ := hall i hi
      exact ⟨(x, y, z, u), ⟨hj 0 (by omega), hj 1 (by omega), hj 2 (by omega), hj 3 (by omega)⟩, hz, hu⟩
    obtain ⟨ds, hds⟩ := Deep.choose_lt this
    exact ⟨ds, fun _ => ⟨bl, off, ha, hbl, hds⟩⟩
  · exact ⟨fun _ => (0, 0, 0, 0), fun h => absurd h hlen⟩

/-- Limits by value. -/
theorem lim_of {r : Reach} {b0 : Nat} {v : Value} {d : DataW H} {p : List MemPlace} (hv : Value.okWide Try.prog w r b0 24 v) (h : DataW.Trod enc Try.prog w base spare held 24 v d p) : ∃ k b : Int, v = .agg #[.int .u64 k, .int .u64 b] ∧ 0 ≤ k ∧ k ≤ big ∧ 0 ≤ b ∧ b ≤ big := by
  obtain ⟨c0, c1, y0, y1, n, rfl, _, _, h0, h1⟩ := open_agg2 Try.underlying24 (by kernel_rfl) cellsLim hv h
  obtain ⟨k, e0, _, wk⟩ := DataW.trod_int Try.underlying22 h0
  obtain ⟨b, e1, _, wb⟩ := DataW.trod_int Try.underlying22 h1
  simp at e0 e1
  subst e0 e1
  exact ⟨k, b, rfl, (u64_bounds wk).1, (u64_bounds wk).2, (u64_bounds wb).1, (u64_bounds wb).2⟩
end

set_option maxRecDepth 100000 in
theorem once_lifted (os : Os) (started : os.Started) (H : Type) (enc : TypeId × Value → H) :
    ReturnsInHanded {} Try.checked os 3 .any (Rows.purseOnceSpec.pre6 enc Try.prog Try.f3 Rows.purseOnceRow.domain false) (Rows.purseOnceSpec.post enc Try.prog Try.f3 false true false false) := by
  refine returnsInHanded_of_change (C := Try.checked) own started (by kernel_rfl) Try.func3
    (ChangeSpec.witness6 (enc := enc) (C := Try.checked) false ⟨#[], #[.agg #[.int .u64 0, .int .u64 0], .slice none 0 0, .bool false, .int .i64 0], []⟩ 8 (by kernel_rfl) (by kernel_rfl) (by kernel_rfl) (by kernel_rfl)) ?_
  intro W base args ds gs before hval0 hW hcnd _
  have hval : ∀ (j : Nat) t v, Try.f3.params[j]? = some t → args[j]? = some v → Value.okWide Try.prog W .any base t v := hval0
  have hW' := hW
  obtain ⟨p, q, hA0, hV, rfl, hfz, hnd⟩ := hW
  have hA : DataW.TrodAll enc Try.prog W 0 (fun _ => true) true Try.f3.params.toList args.toList ds p := hA0
  rw [Try.params3] at hA hval
  obtain ⟨v0, vs0, d0, ds0, p0, q0, hargs, rfl, rfl, h0, r0⟩ := trodAll_cons hA
  obtain ⟨v1, vs1, d1, ds1, p1, q1, rfl, rfl, rfl, h1, r1⟩ := trodAll_cons r0
  obtain ⟨v2, vs2, d2, ds2, p2, q2, rfl, rfl, rfl, h2, r2⟩ := trodAll_cons r1
  obtain ⟨v3, vs3, d3, ds3, p3, q3, rfl, rfl, rfl, h3, r3⟩ := trodAll_cons r2
  obtain ⟨rfl, rfl, rfl⟩ := trodAll_nil r3
  obtain rfl : args = #[v0, v1, v2, v3] := by cases args; simp_all
  obtain ⟨rfl, rfl⟩ := trodVars_none hV
  obtain ⟨lk, lb, rfl, l1, l2, l3, l4⟩ := lim_of (hval 0 24 v0 rfl rfl) h0
  obtain ⟨a1, len1, cap1, rfl⟩ := okWide_slice Try.underlying25 (hval 1 25 v1 rfl rfl)
  have hF := open_flat Try.underlying25 (by rw [cellsDeed]; omega) GoodDeed good_deed h1
  rw [cellsDeed] at hF
  obtain ⟨dd, hD⟩ := deeds_of hF
  have k0 := h0
  have k1 := h1
  have k2 := h2
  have k3 := h3
  have lt0 : ∀ x ∈ p0, x.block < W.heap.size := by obtain ⟨m, hm⟩ := k0; exact DataW.trod_lt m _ _ _ hm
  have lt1 : ∀ x ∈ p1, x.block < W.heap.size := by obtain ⟨m, hm⟩ := k1; exact DataW.trod_lt m _ _ _ hm
  obtain ⟨keep, rfl, rfl, rfl⟩ := open_bool Try.underlying4 (hval 2 4 v2 rfl rfl) h2
  obtain ⟨other, rfl, rfl, rfl, w3⟩ := open_int Try.underlying3 (hval 3 3 v3 rfl rfl) h3
  clear hA0 hval0
  refine (once_any lk lb a1 len1 cap1 dd keep other W hD l1 l2 l3 l4).mono fun e W' ⟨he, bel⟩ => ?_
  subst he
  exact ⟨_, rfl, _, _, _, [], _, [], hW', trodAll_mk1 (shut_bool Try.underlying4 _),
    (trodAll_cons_mk (Below.trod laidOut (by kernel_rfl) (of_decide_eq_true (by kernel_rfl)) k0 bel lt0) (trodAll_cons_mk (Below.trod laidOut (by kernel_rfl) (of_decide_eq_true (by kernel_rfl)) k1 bel lt1)
      (trodAll_cons_mk (shut_bool Try.underlying4 _) (trodAll_cons_mk (shut_int Try.underlying3 w3) trodAll_mk0)))), rfl, bel.frame _, fun h => by cases h⟩

theorem once_over : Rows.purseOnceRow.holds Try.pinned (OpenSpec.ofChange Rows.purseOnceSpec) :=
  OpenClaim.holds_of_wide 3 Try.f3 rfl rfl rfl rfl rfl rfl rfl ⟨rfl, rfl, rfl, rfl, rfl⟩ rfl rfl rfl rfl rfl (by kernel_rfl) Try.func3 (by kernel_rfl)
    (of_decide_eq_true (by kernel_rfl)) (by unfold Func.isWrapper; first | (rw [if_pos (by decide +kernel)]; kernel_rfl) | (rw [if_neg (by decide +kernel)]; exact ⟨rfl, rfl⟩))
    (fun os started H enc _ => once_lifted os started H enc)

theorem once_proved : Rows.PurseOnceSaid := once_over
#print axioms once_proved
end Go.Proofs.Ytkdimkaladbnpaa
