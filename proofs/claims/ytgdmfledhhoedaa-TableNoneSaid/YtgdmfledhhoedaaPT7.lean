/- The purse's methods, said of the plain purse. -/
import Derived.Test.YtgdmfledhhoedaaPT6
import Derived.Test.YtgdmfledhhoedaaPurseM
namespace Go.Proofs.Ytgdmfledhhoedaa
set_option maxRecDepth 8000
open Go.ChangeShapes Go.WideShapes Go.ChangeAt Go.RowKit Go.Burg
open Go.Burg.Purse (St Inv wrap_in big)

def PurseAt (w : World) (b m : Nat) (s : St) : Prop :=
  w.heap[b]? = some (PBlk s.xk s.xb s.hk s.hb s.kk s.kb s.last (some m)) ∧ MapOf (Value.int .i64) lim w m s.l

theorem PurseAt.lt {w : World} {b m : Nat} {s : St} (h : PurseAt w b m s) : b < w.heap.size ∧ m < w.heap.size := ⟨lt_of_block h.1, h.2.lt⟩
theorem PurseAt.ne {w : World} {b m : Nat} {s : St} (h : PurseAt w b m s) : b ≠ m := fun e => by
  obtain ⟨es, c, h1, _⟩ := h.2
  have h2 := h.1
  subst e
  rw [h2] at h1
  cases h1
theorem PurseAt.below {w w' : World} {b m B : Nat} {s : St} (h : PurseAt w b m s) (hb : Below B w w') (h1 : b < B) (h2 : m < B) : PurseAt w' b m s := ⟨blk_below h.1 hb h1, h.2.below hb h2⟩
theorem PurseAt.keep {w w' : World} {b m : Nat} {s : St} (h : PurseAt w b m s) (hb : Below w.heap.size w w') : PurseAt w' b m s := h.below hb h.lt.1 h.lt.2
theorem PurseAt.alloc {w : World} {b m : Nat} {s : St} (h : PurseAt w b m s) (o : Obj) : PurseAt (w.alloc o) b m s := ⟨blk_alloc h.1, h.2.alloc o⟩
theorem PurseAt.mod {w w' : World} {b m : Nat} {s : St} {S : Nat → Prop} (h : PurseAt w b m s) (hM : Mod S w w') (h1 : ¬ S b) (h2 : ¬ S m) : PurseAt w' b m s := ⟨(hM.block b h.lt.1 h1).trans h.1, h.2.mod hM h2⟩
theorem PurseAt.setCell {w : World} {b m : Nat} {s : St} (h : PurseAt w b m s) {a : Addr} (h1 : b ≠ a.block) (h2 : m ≠ a.block) (v : Value) : PurseAt (w.setCell a v) b m s := ⟨(Below.heap_setCell _ _ _ _ h1).trans h.1, h.2.setCell h2 v⟩

/-- What a purse's deed may turn. -/
def Own (b m : Nat) (i : Nat) : Prop := i = b ∨ i = m

variable {w : World} {b m : Nat} {s : St}

theorem Inv.sums (h : Inv s) : IntKind.u64.wrap (s.hk + s.kk) = s.hk + s.kk ∧ IntKind.u64.wrap (s.hb + s.kb) = s.hb + s.kb := by
  have := h.kk; have := h.kb; have := h.hk; have := h.hb; have := h.fk; have := h.fb; have := h.xk; have := h.xb
  exact ⟨wrap_in (by omega) (by omega), wrap_in (by omega) (by omega)⟩
theorem Inv.rooms (h : Inv s) : IntKind.u64.wrap (s.xk - IntKind.u64.wrap (s.hk + s.kk)) = s.xk - (s.hk + s.kk) ∧ IntKind.u64.wrap (s.xb - IntKind.u64.wrap (s.hb + s.kb)) = s.xb - (s.hb + s.kb) := by
  obtain ⟨e1, e2⟩ := Inv.sums h
  rw [e1, e2]
  have := h.kk; have := h.kb; have := h.hk; have := h.hb; have := h.fk; have := h.fb; have := h.xk; have := h.xb
  exact ⟨wrap_in (by omega) (by omega), wrap_in (by omega) (by omega)⟩

theorem has_at (h : PurseAt w b m s) : Calls Try.prog 21 #[.pointer (some ⟨b, 0, none⟩)] w fun e w' => e = .returned (.agg #[.int .u64 s.hk, .int .u64 s.hb]) ∧ Below w.heap.size w w' := has_any b m _ _ _ _ _ _ _ w h.1

theorem reserve_at (h : PurseAt w b m s) (hi : Inv s) (hl : s.last < 4000000000) (k y : Int) (hk : 0 ≤ k) (hy : 0 ≤ y) :
    Calls Try.prog 88 #[.pointer (some ⟨b, 0, none⟩), .int .u64 k, .int .u64 y] w fun e w' => e = .returned (.tuple #[.int .i64 (s.res k y).1, .int .i64 (s.res k y).2.1]) ∧ PurseAt w' b m (s.res k y).2.2 ∧ Mod (Own b m) w w' := by
  obtain ⟨r1, r2⟩ := Inv.rooms hi
  by_cases hf : s.fits k y
  · obtain ⟨f1, f2⟩ := hf
    refine (reserve_yes b m _ _ _ _ _ _ _ k y _ _ w h.1 r1 r2 f1 f2 s.l h.2 hi.last hl hi.fresh).mono ?_
    rintro e w' ⟨rfl, hP, hM, hX⟩
    have hk2 := hi.kk; have hb2 := hi.kb; have := hi.hk; have := hi.hb; have := hi.fk; have := hi.fb; have := hi.xk; have := hi.xb
    rw [wrap_in (x := s.kk + k) (by omega) (by omega), wrap_in (x := s.kb + y) (by omega) (by omega)] at hP
    have e1 : s.res k y = (s.last + 1, 0, { s with kk := s.kk + k, kb := s.kb + y, last := s.last + 1, l := s.l ++ [(s.last + 1, k, y)] }) := if_pos ⟨f1, f2⟩
    rw [e1]
    exact ⟨rfl, ⟨hP, hM⟩, hX⟩
  · refine (reserve_no b m _ _ _ _ _ _ _ k y _ _ w h.1 r1 r2 hf).mono ?_
    rintro e w' ⟨rfl, hb⟩
    have e1 : s.res k y = (0, 10, s) := if_neg hf
    rw [e1]
    exact ⟨rfl, h.keep hb, Mod.ofBelow hb⟩

theorem pay_at (h : PurseAt w b m s) (hi : Inv s) (k y : Int) (hk : 0 ≤ k) (hy : 0 ≤ y) :
    Calls Try.prog 101 #[.pointer (some ⟨b, 0, none⟩), .int .u64 k, .int .u64 y] w fun e w' => e = .returned (.int .i64 (s.pay k y).1) ∧ PurseAt w' b m (s.pay k y).2 ∧ Mod (Own b m) w w' := by
  by_cases hf : k ≤ s.hk ∧ y ≤ s.hb
  · obtain ⟨f1, f2⟩ := hf
    refine (pay_yes b m _ _ _ _ _ _ _ k y _ _ w h.1 rfl rfl f1 f2).mono ?_
    rintro e w' ⟨rfl, hP, hX⟩
    have hk2 := hi.kk; have hb2 := hi.kb; have := hi.hk; have := hi.hb; have := hi.fk; have := hi.fb; have := hi.xk; have := hi.xb
    rw [wrap_in (x := s.hk - k) (by omega) (by omega), wrap_in (x := s.hb - y) (by omega) (by omega)] at hP
    have e1 : s.pay k y = (0, { s with hk := s.hk - k, hb := s.hb - y }) := if_pos ⟨f1, f2⟩
    rw [e1]
    exact ⟨rfl, ⟨hP, h.2.mod hX (fun e => h.ne e.symm)⟩, hX.mono fun _ _ h => .inl h⟩
  · refine (pay_no b m _ _ _ _ _ _ _ k y _ _ w h.1 rfl rfl hf).mono ?_
    rintro e w' ⟨rfl, hb⟩
    have e1 : s.pay k y = (10, s) := if_neg hf
    rw [e1]
    exact ⟨rfl, h.keep hb, Mod.ofBelow hb⟩

theorem refund_at (h : PurseAt w b m s) (hi : Inv s) (t : Int) :
    Calls Try.prog 87 #[.pointer (some ⟨b, 0, none⟩), .int .i64 t] w fun e w' => e = .returned (.int .i64 (s.ref t).1) ∧ PurseAt w' b m (s.ref t).2 ∧ Mod (Own b m) w w' := by
  unfold St.ref
  cases hl : s.l.lookup t with
  | some x =>
    obtain ⟨k, y⟩ := x
    have he := hi.ent _ (Purse.mem_lookup hl)
    refine (refund_some b m _ _ _ _ _ _ _ t k y s.l w h.1 h.2 hl).mono ?_
    rintro e w' ⟨rfl, hP, hM, hX⟩
    have hk2 := (hi.ref t).kk; have hb2 := (hi.ref t).kb; have := hi.hk; have := hi.hb; have := hi.fk; have := hi.fb; have := hi.xk; have := hi.xb
    simp only [St.ref, hl] at hk2 hb2
    simp only at he
    rw [wrap_in (x := s.kk - k) (by omega) (by omega), wrap_in (x := s.kb - y) (by omega) (by omega)] at hP
    exact ⟨rfl, ⟨hP, hM⟩, hX⟩
  | none =>
    refine (refund_none b m _ _ _ _ _ _ _ t s.l w h.1 h.2 hl).mono ?_
    rintro e w' ⟨rfl, hb⟩
    exact ⟨rfl, h.keep hb, Mod.ofBelow hb⟩

theorem commit_at (h : PurseAt w b m s) (hi : Inv s) (t : Int) :
    Calls Try.prog 85 #[.pointer (some ⟨b, 0, none⟩), .int .i64 t] w fun e w' => e = .returned (.int .i64 (s.com t).1) ∧ PurseAt w' b m (s.com t).2 ∧ Mod (Own b m) w w' := by
  unfold St.com
  cases hl : s.l.lookup t with
  | some x =>
    obtain ⟨k, y⟩ := x
    have he := hi.ent _ (Purse.mem_lookup hl)
    refine (commit_some b m _ _ _ _ _ _ _ t k y s.l w h.1 h.2 hl).mono ?_
    rintro e w' ⟨rfl, hP, hM, hX⟩
    have hk2 := (hi.com t).kk; have hb2 := (hi.com t).kb; have := hi.hk; have := hi.hb; have := hi.fk; have := hi.fb; have := hi.xk; have := hi.xb
    simp only [St.com, hl] at hk2 hb2
    simp only at he
    rw [wrap_in (x := s.kk - k) (by omega) (by omega), wrap_in (x := s.kb - y) (by omega) (by omega), wrap_in (x := s.hk + k) (by omega) (by omega), wrap_in (x := s.hb + y) (by omega) (by omega)] at hP
    exact ⟨rfl, ⟨hP, hM⟩, hX⟩
  | none =>
    refine (commit_none b m _ _ _ _ _ _ _ t s.l w h.1 h.2 hl).mono ?_
    rintro e w' ⟨rfl, hb⟩
    exact ⟨rfl, h.keep hb, Mod.ofBelow hb⟩

theorem new_at (mk mb : Int) (w : World) : Calls Try.prog 27 #[.agg #[.int .u64 mk, .int .u64 mb]] w fun e w' => ∃ b m, e = .returned (.pointer (some ⟨b, 0, none⟩)) ∧ PurseAt w' b m (St.new mk mb) ∧ w.heap.size ≤ b ∧ w.heap.size ≤ m ∧ Below w.heap.size w w' :=
  (new_any mk mb w).mono fun _ _ ⟨b, m, he, h1, h2, h3, h4, _, h5⟩ => ⟨b, m, he, ⟨h1, h2⟩, h3, h4, h5⟩
end Go.Proofs.Ytgdmfledhhoedaa
