/- The table: Create. -/
import Derived.Test.YtgdmfledhhoedaaTC
import Derived.Test.YtgdmfledhhoedaaT5
import Derived.Test.YtgdmfledhhoedaaTurn4
namespace Go.Burg
open Go Go.RowKit
/-- The tenants with one of them changed. -/
def upd (l : Nat → Ten) (n : Nat) (t : Ten) : Nat → Ten := fun i => if i = n then t else l i
theorem TabAt.put {tt : TypeId} {w : World} {x t n : Nat} {l : Nat → Ten} (h : TabAt tt w x t l) (hn : n < 17) (d : Ten) :
    TabAt tt ((((w.setCell ⟨x, 1 + n * 4, none⟩ (.int .u32 d.gen)).setCell ⟨x, 1 + n * 4 + 1, none⟩ (.int .i64 d.slot)).setCell ⟨x, 1 + n * 4 + 2, none⟩ (.int .u32 d.agen)).setCell ⟨x, 1 + n * 4 + 3, none⟩ (.pointer (d.purse.map fun b => ⟨b, 0, none⟩))) x t (upd l n d) := by
  obtain ⟨cs, h1, h2, h3⟩ := h
  have a3 : cs[1 + n * 4 + 3]? = some (.pointer ((l n).purse.map fun b => ⟨b, 0, none⟩)) := h3 n hn 3 (by omega)
  have s3 : 1 + n * 4 + 3 < cs.size := (Array.getElem?_eq_some_iff.1 a3).1
  refine ⟨_, heap_set (heap_set (heap_set (heap_set h1))), ?_, fun i hi j hj => ?_⟩
  · iterate 4 rw [set_get, if_neg (by omega)]
    exact h2
  · unfold upd
    by_cases hin : i = n
    · subst hin
      rw [if_pos rfl]
      rcases (by omega : j = 0 ∨ j = 1 ∨ j = 2 ∨ j = 3) with rfl | rfl | rfl | rfl <;> simp [set_get, TRow] <;> omega
    · rw [if_neg hin, ← h3 i hi j hj]
      iterate 4 rw [set_get, if_neg (by omega)]
end Go.Burg
namespace Go.Proofs.Ytgdmfledhhoedaa.T
set_option maxRecDepth 8000
open Go.ChangeShapes Go.WideShapes Go.ChangeAt Go.RowKit Go.Burg
open Go.Burg.Lk
open Go.Burg.Purse (St Inv)

theorem pnew_det (mk mb : Int) (w : World) : Calls Try.prog 27 #[.agg #[.int .u64 mk, .int .u64 mb]] w fun e w' => e = .returned (.pointer (some ⟨w.heap.size + 1 + 1, 0, none⟩)) ∧ PurseAt w' (w.heap.size + 1 + 1) (w.heap.size + 1) (St.new mk mb) ∧ Below w.heap.size w w' := by
  have hmm := @run_makeMap Try.prog
  go_enter Try.func27, Try.ntmps27
  go_wp2
  go_ret
  refine ⟨rfl, ⟨?_, ?_⟩, by (repeat (first | exact Below.refl _ _ | assumption | with_reducible refine Below.drew ?_ | with_reducible refine below_drewN ?_ | with_reducible refine Below.setCell ?_ (by first | (simp; done) | (simp; omega)) _ | with_reducible refine Below.alloc ?_ (by first | exact Nat.le_refl _ | (simp; done) | (simp; omega)) _))⟩
  · simpa [PBlk, St.new] using heap_new ((w.alloc (.cells #[.int .u64 mk, .int .u64 mb] 49 (0, 0))).alloc (.map #[] 0)) (PBlk mk mb 0 0 0 0 0 (some (w.heap.size + 1)))
  · have h0 := heap_new (w.alloc (.cells #[.int .u64 mk, .int .u64 mb] 49 (0, 0))) (.map #[] 0)
    refine MapOf.alloc ?_ _
    exact ⟨#[], 0, by simpa using h0, by simp [St.new], by simp, by simp [St.new]⟩

/-- While the new tenant is made and stored. -/
def MkMid (W : World) (x t n : Nat) (l : Nat → Ten) (d : Ten) (s : St) (b1 b2 : Bool) (w1 : World) : Prop :=
  cond b2 (Mod (· = x) W w1 ∧ TabAt 42 w1 x t (upd l n d) ∧ PurseAt w1 (W.heap.size + 1 + 1) (W.heap.size + 1) s)
    (cond b1 (Below W.heap.size W w1 ∧ PurseAt w1 (W.heap.size + 1 + 1) (W.heap.size + 1) s) (w1 = W.drew))
theorem MkMid.below {W w1 : World} {x t n : Nat} {l : Nat → Ten} {d : Ten} {s : St} {b1 : Bool} (h : MkMid W x t n l d s b1 false w1) : Below W.heap.size W w1 := by
  cases b1
  · have : w1 = W.drew := h
    rw [this]
    exact (Below.refl _ _).drew
  · exact h.1

/-- What Create turns. -/
def COwn (x sg km : Nat) (i : Nat) : Prop := i = x ∨ TOwn sg km i
set_option maxHeartbeats 4000000 in
theorem create_new {x t sb sg kb km k n : Nat} {l : Nat → Ten} {ls : List (Cel Nd)} {L : List (RefK × Wd)} {c : Cel Nd} (mk mb : Int) (w : World) (hX : TabAt 42 w x t l) (hT : TreeAt w t sb sg kb km ls L)
    (hx : x ≠ t ∧ x ≠ sb ∧ x ≠ sg ∧ x ≠ kb ∧ x ≠ km) (h1 : 1 ≤ n) (h2 : n ≤ 16) (hp : (l n).purse = none) (hg : 0 ≤ (l n).gen ∧ (l n).gen < 4294967295)
    (hF : First ls (k : Int)) (hk : ls[k]? = some c) (hr : c.room = true) (r : RefK) (hr1 : r.1.1 = k) (hr2 : r.1.2 = c.gen + 1) :
    Calls Try.prog 10 #[.pointer (some ⟨x, 0, none⟩), .int .i64 n, .agg #[.int .u64 mk, .int .u64 mb]] w fun e w' => e = .returned (.int .i64 0) ∧ ∃ p m, TabAt 42 w' x t (upd l n ⟨(l n).gen + 1, k, c.gen + 1, some p⟩) ∧ TreeAt w' t sb sg kb km (ls.set k ⟨true, anchorN, c.gen + 1⟩) (K.addL L r).2 ∧ PurseAt w' p m (St.new mk mb) ∧ w.heap.size ≤ p ∧ w.heap.size ≤ m ∧ Mod (COwn x sg km) w w' := by
  have hN := heap_new w (.cells #[.int .u64 mk, .int .u64 mb] 49 (0, 0))
  have hXA := hX.alloc (.cells #[.int .u64 mk, .int .u64 mb] 49 (0, 0))
  have hTA := hT.alloc (.cells #[.int .u64 mk, .int .u64 mb] 49 (0, 0))
  have HO := hid (of_none (.func (.func 25) #[] #[]) _ hXA h1 h2 hp)
  have HPL := hid (plant_at _ hTA hF hk hr r hr1 hr2)
  have HX0 := hid hX
  have HT0 := hid hT
  have HXA := hid hXA
  have HN := hid hN
  have HH := hid hx
  have HG := hid hg
  have hno : ¬ TOwn sg km x := fun e => by rcases e with e | e <;> omega
  have hno2 : ¬ TOwn sg km w.heap.size := fun e => by have := hT.hs.glt; have := hT.hk.lt; rcases e with e | e <;> omega
  have c0 := hXA.head.1
  clear hX hT hx hp hg hF hk hr hr1 hr2 hN hXA hTA
  go_enter Try.func10, Try.ntmps10
  go_wp2_with (first | (go_at_call 17; refine HO.out.mono ?_; rintro e w2 ⟨rfl, rfl⟩) | (go_at_call 26; refine HPL.out.mono ?_; rintro e w2 ⟨rfl, hT2, hM2⟩; have HT2 := hid hT2; have HM2 := hid hM2; clear hT2 hM2))
  have hM2 := HM2.out
  have hb0 : Mod (TOwn sg km) w w2 := ((Mod.refl (TOwn sg km) w).alloc (.cells #[.int .u64 mk, .int .u64 mb] 49 (0, 0))).trans hM2 (fun _ _ h => h)
  have HXW := hid ((HXA.out.mod hM2 hno).alloc (.cells #[.int .i64 k, .int .u32 (c.gen + 1)] 36 (0, 0)))
  have HTW := hid (HT2.out.alloc (.cells #[.int .i64 k, .int .u32 (c.gen + 1)] 36 (0, 0)))
  have HNW := hid (blk_alloc (o' := (.cells #[.int .i64 k, .int .u32 (c.gen + 1)] 36 (0, 0))) ((hM2.block w.heap.size (by simp) hno2).trans HN.out))
  have HUW := hid (heap_new w2 (.cells #[.int .i64 k, .int .u32 (c.gen + 1)] 36 (0, 0)))
  have HMW := hid (hb0.alloc (.cells #[.int .i64 k, .int .u32 (c.gen + 1)] 36 (0, 0)))
  have hws : w.heap.size < w2.heap.size := Nat.lt_of_lt_of_le (by simp) hM2.size
  have hwu : (w2.alloc (.cells #[.int .i64 k, .int .u32 (c.gen + 1)] 36 (0, 0))).heap.size = w2.heap.size + 1 := by simp
  clear hM2 hb0 HM2 HT2 HN HXA HO HPL c0
  generalize w2.alloc (.cells #[.int .i64 k, .int .u32 (c.gen + 1)] 36 (0, 0)) = W at *
  generalize w2.heap.size = u at *
  have HWU := hid hwu
  clear hwu
  have hg0 := HG.out
  have hwr : IntKind.u32.wrap ((l n).gen + 1) = (l n).gen + 1 := by
    have : IntKind.u32.wrap ((l n).gen + 1) = ((l n).gen + 1) % 4294967296 := rfl
    rw [this]; omega
  have HWR := hid hwr
  clear hwr hg0
  have hxl := HXW.out.lt
  have HCL := hid (show n < 17 by omega)
  refine wp_region_seqC 18 (Turn4 12 17 98 99 (fun b1 b2 _ _ w1 => MkMid W x t n l ⟨(l n).gen + 1, k, c.gen + 1, some (W.heap.size + 1 + 1)⟩ (St.new mk mb) b1 b2 w1)) (by kernel_rfl) (by kernel_rfl) (by kernel_rfl) (Turn4.start rfl) ?_
  dsimp only [List.take]
  iterate 12
    refine Seq4.calm (a' := ?_) (by decide) (by decide) (by decide) (by decide) ?_ ?_ ?_
    rotate_left
    ·
      intro b1 b2 b3 b4 w1 e1 f1 e2 f2 e3 f3 e4 f4 hw1
      obtain rfl := e2 (by kernel_rfl)
      have HW1 := hid hw1
      have hb1 := hw1.below
      obtain ⟨t0, _, _, _⟩ := (HXW.out.keep hb1).cell HCL.out
      have hn1 := blk_below HNW.out hb1 (lt_of_block HNW.out)
      have hu1 := blk_below HUW.out hb1 (lt_of_block HUW.out)
      have n0 := cell_of hn1 0
      have n1 := cell_of hn1 1
      have u0 := cell_of hu1 0
      have u1 := cell_of hu1 1
      have hwr := HWR.out
      clear hw1 hb1 hn1 hu1 e1 f1 e2 f2 e3 f3 e4 f4
      go_wp2_with fail
      refine ⟨?_, HW1.out⟩
      exact rfl
    · kernel_rfl
  refine Seq4.at1 (a' := ?_) (by decide) (by decide) (by decide) ?_ ?_ ?_
  rotate_left
  ·
    intro b2 b3 b4 w1 e2 f2 e3 f3 e4 f4 hw1
    obtain rfl := e2 (by kernel_rfl)
    obtain rfl : w1 = W.drew := hw1
    clear e2 f2 e3 f3 e4 f4
    go_wp2_with (go_at_call 27; refine (pnew_det mk mb _).mono ?_; rintro e w3 ⟨rfl, hP, hB⟩)
    refine ⟨?_, (Below.refl _ _).drew.trans hB, hP⟩
    exact rfl
  · kernel_rfl
  iterate 4
    refine Seq4.calm (a' := ?_) (by decide) (by decide) (by decide) (by decide) ?_ ?_ ?_
    rotate_left
    ·
      intro b1 b2 b3 b4 w1 e1 f1 e2 f2 e3 f3 e4 f4 hw1
      obtain rfl := e2 (by kernel_rfl)
      have HW1 := hid hw1
      have hb1 := hw1.below
      obtain ⟨t0, _, _, _⟩ := (HXW.out.keep hb1).cell HCL.out
      have hn1 := blk_below HNW.out hb1 (lt_of_block HNW.out)
      have hu1 := blk_below HUW.out hb1 (lt_of_block HUW.out)
      have n0 := cell_of hn1 0
      have n1 := cell_of hn1 1
      have u0 := cell_of hu1 0
      have u1 := cell_of hu1 1
      have hwr := HWR.out
      clear hw1 hb1 hn1 hu1 e1 f1 e2 f2 e3 f3 e4 f4
      go_wp2_with fail
      refine ⟨?_, HW1.out⟩
      exact rfl
    · kernel_rfl
  refine Seq4.at2 (a' := ?_) (by decide) (by decide) (by decide) ?_ ?_ ?_
  rotate_left
  ·
    intro b1 b3 b4 w1 e1 f1 e3 f3 e4 f4 hw1
    obtain rfl := f1 (by kernel_rfl)
    clear e1 f1 e3 f3 e4 f4
    have hb1 : Below W.heap.size W w1 := hw1.1
    have hX1 := HXW.out.keep hb1
    obtain ⟨t0, t1, t2, t3⟩ := hX1.cell HCL.out
    have tf := hX1.head.2
    have HPUT := hid (hX1.put HCL.out ⟨(l n).gen + 1, k, c.gen + 1, some (W.heap.size + 1 + 1)⟩)
    have HPU : Hid (PurseAt w1 (W.heap.size + 1 + 1) (W.heap.size + 1) (St.new mk mb)) := hid hw1.2
    have HB1 := hid hb1
    have HWZ := hid hxl
    clear hw1 hb1 hX1
    go_wp2_with fail
    have hM : Mod (· = x) w1 _ := Mod.setCell (S := (· = x)) (p := ⟨x, 1 + n * 4 + 3, none⟩) (Mod.setCell (S := (· = x)) (p := ⟨x, 1 + n * 4 + 2, none⟩) (Mod.setCell (S := (· = x)) (p := ⟨x, 1 + n * 4 + 1, none⟩) (Mod.setCell (S := (· = x)) (p := ⟨x, 1 + n * 4, none⟩) (Mod.refl _ w1) (.inl rfl) (.int .u32 ((l n).gen + 1))) (.inl rfl) (.int .i64 k)) (.inl rfl) (.int .u32 (c.gen + 1))) (.inl rfl) (.pointer (some ⟨W.heap.size + 1 + 1, 0, none⟩))
    refine ⟨?_, (Mod.ofBelow HB1.out).trans hM (fun _ _ h => h), HPUT.out, HPU.out.mod hM (by omega) (by omega)⟩
    exact rfl
  · kernel_rfl
  refine SeqC.nil ?_
  intro D w1 hD hI
  unfold Turn4 at hI
  rw [hD 12 (by omega), hD 17 (by omega)] at hI
  obtain ⟨hM, hX, hP⟩ := hI
  have HM := hid hM
  have HX := hid hX
  have HP := hid hP
  clear hD hM hX hP
  dsimp only [List.drop]
  go_wp2
  go_ret
  have hM := HM.out
  have hT := HTW.out
  have hh := HH.out
  have hsz := HMW.out.size
  refine ⟨rfl, W.heap.size + 1 + 1, W.heap.size + 1, HX.out, hT.mod hM (Ne.symm hh.1) (Ne.symm hh.2.1) (Ne.symm hh.2.2.1) (Ne.symm hh.2.2.2.1) (Ne.symm hh.2.2.2.2), HP.out, by omega, by omega, ?_⟩
  exact (HMW.out.mono (S' := COwn x sg km) fun _ _ h => .inr h).trans hM (fun _ _ h => .inl h)

/-- Create where the tenant is there already. -/
theorem create_twice {x t n p : Nat} {l : Nat → Ten} (mk mb : Int) (w : World) (hX : TabAt 42 w x t l) (h1 : 1 ≤ n) (h2 : n ≤ 16) (hp : (l n).purse = some p) :
    Calls Try.prog 10 #[.pointer (some ⟨x, 0, none⟩), .int .i64 n, .agg #[.int .u64 mk, .int .u64 mb]] w fun e w' => e = .returned (.int .i64 8) ∧ Below w.heap.size w w' := by
  have HO := hid (of_create _ (hX.alloc (.cells #[.int .u64 mk, .int .u64 mb] 49 (0, 0))) h1 h2 hp)
  clear hX hp
  go_enter Try.func10, Try.ntmps10
  go_wp2_with (go_at_call 17; refine HO.out.mono ?_; rintro e w2 ⟨rfl, rfl⟩)
  go_ret
  exact ⟨rfl, (Below.refl _ _).alloc (Nat.le_refl _) _⟩
end Go.Proofs.Ytgdmfledhhoedaa.T
