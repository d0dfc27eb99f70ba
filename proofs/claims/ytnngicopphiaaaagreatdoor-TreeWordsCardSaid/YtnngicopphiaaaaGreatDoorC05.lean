/- Part 5 of 51 of a proof: lemmas on the functions that it reaches. -/
import Derived.Test.YtnngicopphiaaaaGreatDoorC04
import Derived.Test.YtnngicopphiaaaaGreatDoorC02
import Derived.Test.YtnngicopphiaaaaGreatDoorC03
namespace Go.Burg
open Go Go.RowKit
def Fw.kd (F : Fw) (i : Nat) : Kd := ⟨F.b i, F.s i, F.g i⟩
def Fw.list (F : Fw) : List Kd := (List.range F.n).map F.kd
theorem Fw.list_len (F : Fw) : F.list.length = F.n := by simp [Fw.list]
theorem Fw.list_get (F : Fw) {i : Nat} (hi : i < F.n) : F.list[i]? = some (F.kd i) := by simp [Fw.list, hi]
theorem Fw.list_ext {F : Fw} {l : List Kd} (hn : l.length = F.n) (h : ∀ i, i < F.n → l[i]? = some (F.kd i)) : l = F.list := by
  refine List.ext_getElem? fun i => ?_
  by_cases hi : i < F.n
  · rw [h i hi, F.list_get hi]
  · rw [List.getElem?_eq_none (by omega), List.getElem?_eq_none (by rw [F.list_len]; omega)]
theorem Fw.list_ins (F : Fw) {n : Nat} (y s g : Int) (hn : n ≤ F.n) : F.list.take n ++ ⟨y, s, g⟩ :: F.list.drop n = (F.ins n y s g).list := by
  refine Fw.list_ext (by simp [Fw.list_len, Fw.ins]; omega) fun i hi => ?_
  have hi' : i < F.n + 1 := hi
  have ht : (F.list.take n).length = n := by simp [Fw.list_len]; omega
  rcases Nat.lt_trichotomy i n with h | rfl | h
  · rw [List.getElem?_append_left (by omega), List.getElem?_take, if_pos h, F.list_get (by omega)]
    have e1 : ¬ (i = n) := by omega
    have e2 : ¬ (n < i ∧ i ≤ F.n) := by omega
    simp only [Fw.kd, Fw.ins, Fw.upB, Fw.upR, if_neg e1, if_neg e2]
  · rw [List.getElem?_append_right (by omega), ht, Nat.sub_self]
    simp [Fw.kd, Fw.ins]
  · rw [List.getElem?_append_right (by omega), ht, show i - n = (i - n - 1) + 1 by omega, List.getElem?_cons_succ, List.getElem?_drop, F.list_get (by omega)]
    have e1 : ¬ (i = n) := by omega
    have e2 : n < i ∧ i ≤ F.n := by omega
    have e3 : n + (i - n - 1) = i - 1 := by omega
    simp only [Fw.kd, Fw.ins, Fw.upB, Fw.upR, if_neg e1, if_pos e2, e3]
def Fw.turn (F : Fw) (n : Nat) (s g : Int) : Fw := { F with s := fun j => if j = n then s else F.s j, g := fun j => if j = n then g else F.g j }
theorem Fw.list_turn (F : Fw) {n : Nat} (s g : Int) : F.list.set n ⟨F.b n, s, g⟩ = (F.turn n s g).list := by
  refine Fw.list_ext (by simp [Fw.list_len, Fw.turn]) fun i hi => ?_
  have hi' : i < F.n := hi
  by_cases h : n = i
  · subst h
    rw [List.getElem?_set_self (by rw [F.list_len]; omega)]
    simp [Fw.kd, Fw.turn]
  · rw [List.getElem?_set_ne h, F.list_get hi']
    have e : ¬ (i = n) := fun e => h e.symm
    simp only [Fw.kd, Fw.turn, if_neg e]
theorem turn_row (F : Fw) {n : Nat} (s g : Int) (hn : n < 16) : ((FwRow F).set (16 + n * 2) (.int .i64 s)).set (16 + n * 2 + 1) (.int .u32 g) = FwRow (F.turn n s g) := by
  refine row_ext (by simp [fwRow_len]) fun k hk => ?_
  have h0 := fwRow_get F hk
  by_cases h1 : 16 + n * 2 + 1 = k
  · subst h1
    rw [List.getElem?_set_self (by simp [fwRow_len]; omega)]
    have e1 : ¬ (16 + n * 2 + 1 < 16) := by omega
    have e2 : 16 + n * 2 + 1 < 48 := by omega
    have e3 : ¬ ((16 + n * 2 + 1) % 2 = 0) := by omega
    have e4 : (16 + n * 2 + 1 - 16) / 2 = n := by omega
    simp only [fwCell, if_neg e1, if_pos e2, if_neg e3, e4, Fw.turn]
    simp
  rw [List.getElem?_set_ne h1]
  by_cases h2 : 16 + n * 2 = k
  · subst h2
    rw [List.getElem?_set_self (by simp [fwRow_len]; omega)]
    have e1 : ¬ (16 + n * 2 < 16) := by omega
    have e2 : 16 + n * 2 < 48 := by omega
    have e3 : ((16 + n * 2) % 2 = 0) := by omega
    have e4 : (16 + n * 2 - 16) / 2 = n := by omega
    simp only [fwCell, if_neg e1, if_pos e2, if_pos e3, e4, Fw.turn]
    simp
  rw [List.getElem?_set_ne h2, h0]
  unfold fwCell Fw.turn
  by_cases h4 : k < 16
  · simp only [if_pos h4]
  · by_cases h5 : k < 48
    · have e : ¬ ((k - 16) / 2 = n) := by omega
      simp only [if_neg h4, if_pos h5, if_neg e]
    · simp only [if_neg h4, if_neg h5]
theorem idxAt_list (F : Fw) (y : Int) : IdxAt F F.n y (idx F.list y) := by
  obtain ⟨h1, h2, h3, _, _⟩ := idx_spec F.list y
  rw [F.list_len] at h1
  refine ⟨h1, fun j hj => h2 j _ hj (F.list_get (by omega)), fun h => h3 _ (F.list_get h)⟩
structure FewL (T : TypeId) (w : World) (x : Nat) (L : List Kd) (r : Nat) : Prop where
  f : ∃ F : Fw, FwAt T w x F ∧ F.list = L ∧ F.room = r
  rise : Rise L
  room : r = 4 ∨ r = 16
  le : L.length ≤ r
theorem FewL.same {T : TypeId} {w w' : World} {x r : Nat} {L : List Kd} (h : FewL T w x L r) (e : w'.heap[x]? = w.heap[x]?) : FewL T w' x L r := ⟨by obtain ⟨F, h1, h2⟩ := h.f; exact ⟨F, h1.same e, h2⟩, h.rise, h.room, h.le⟩
theorem FewL.lt {T : TypeId} {w : World} {x r : Nat} {L : List Kd} (h : FewL T w x L r) : x < w.heap.size := by obtain ⟨F, h1, _⟩ := h.f; exact h1.lt
end Go.Burg
namespace Go.Proofs.YtnngicopphiaaaaGreatDoor.F
set_option maxRecDepth 8000
open Go.ChangeShapes Go.WideShapes Go.ChangeAt Go.RowKit Go.Burg
theorem fNew_L (r : Nat) (hr : r = 4 ∨ r = 16) (w : World) : Calls Tryz.prog 123 #[.int .i64 r] w fun e w' => e = .returned (.tuple #[.pointer (some ⟨w.heap.size, 0, none⟩), .int .i64 0]) ∧ FewL 212 w' w.heap.size [] r ∧ Below w.heap.size w w' :=
  (fNew_at r hr w).mono fun _ _ h => ⟨h.1, ⟨⟨_, h.2.1, rfl, rfl⟩, List.Pairwise.nil, hr, Nat.zero_le _⟩, h.2.2⟩
theorem fFind_L {x r : Nat} {L : List Kd} (y : Int) (w : World) (h : FewL 212 w x L r) :
    Calls Tryz.prog 167 #[.pointer (some ⟨x, 0, none⟩), .int .u8 y] w fun e w' => e = .returned (.tuple #[.agg #[.int .i64 ((findK L y).elim 0 Kd.s), .int .u32 ((findK L y).elim 0 Kd.g)], .bool (findK L y).isSome]) ∧ Below w.heap.size w w' := by
  obtain ⟨F, hF, rfl, hr⟩ := h.f
  have hl := h.le
  rw [F.list_len] at hl
  have h16 : F.n ≤ 16 := by rcases h.room with e | e <;> omega
  have hr1 : 1 ≤ F.room := by rcases h.room with e | e <;> omega
  have hI := idxAt_list F y
  rcases findK_iff h.rise y with ⟨k, h1, h2, h3⟩ | ⟨h1, h3⟩
  · have hi : idx F.list y < F.n := by have := (List.getElem?_eq_some_iff.1 h1).1; rwa [F.list_len] at this
    rw [F.list_get hi] at h1
    cases h1
    rw [h3]
    exact fFind_yes w hF h16 hr1 hI hi h2
  · rw [h3]
    exact fFind_no w hF h16 hr1 hI (fun hx => h1 _ (F.list_get hx.1) hx.2)
theorem mod_drewN {S : Nat → Prop} {a w : World} {n : Nat} (h : Mod S a w) : Mod S a (w.drewN n) := ⟨h.os, h.tape, h.output, h.size, h.block⟩
set_option maxHeartbeats 4000000 in
theorem fPut_at {x i : Nat} {F : Fw} {y s g : Int} (w : World) (h : FwAt 212 w x F) (hn : F.n < F.room) (h16 : F.room ≤ 16) (hi : IdxAt F F.n y i) (hno : ¬ (i < F.n ∧ F.b i = y)) :
    Calls Tryz.prog 170 #[.pointer (some ⟨x, 0, none⟩), .int .u8 y, .agg #[.int .i64 s, .int .u32 g]] w fun e w' => e = .returned (.int .i64 0) ∧ FwAt 212 w' x (F.ins i y s g) ∧ Mod (· = x) w w' := by
  have hF := h.same (w' := w.alloc (.cells #[.int .i64 s, .int .u32 g] 30 (0, 0))) (Below.heap_alloc _ _ _ h.lt)
  have hN := heap_new w (.cells #[.int .i64 s, .int .u32 g] 30 (0, 0))
  have hx : w.heap.size ≠ x := by have := h.lt; omega
  have hB : Mod (· = x) w (w.alloc (.cells #[.int .i64 s, .int .u32 g] 30 (0, 0))) := (Mod.refl _ _).alloc _
  have hX := lt_of_block hN
  have HT := hid (there_at _ hF (by omega))
  have HA := hid (fat_at (w.alloc (.cells #[.int .i64 s, .int .u32 g] 30 (0, 0))) hF (by omega) hi false (by rw [Bool.and_eq_false_iff]; by_cases hlt : i < F.n; exact .inr (by simp; exact fun e => hno ⟨hlt, e⟩); exact .inl (by simpa using hlt)))
  have HP := hid (fun (w1 : World) (h1 : FwAt 212 w1 x F) => put_at y s g w1 h1 hi.1 (by omega))
  have hd : ((F.n : Int) == (F.room : Int)) = false := by simp; omega
  generalize hW : w.alloc (.cells #[.int .i64 s, .int .u32 g] 30 (0, 0)) = W at *
  generalize hu : w.heap.size = u at *
  have HW := hid hW
  have HU := hid hu
  have HF := hid hF
  have HNB := hid hN
  have HB := hid hB
  have HX := hid hx
  clear h hW hu hF hN hB hn h16 hi hno hx
  go_enter Tryz.func170, Tryz.ntmps170
  go_wp2_with fail
  rw [HW.out, HU.out]
  go_wp2_with (first | (go_at_call 174; refine HT.out.mono ?_; rintro e w2 ⟨rfl, rfl⟩) | (go_at_call 175; refine HA.out.mono ?_; rintro e wa ⟨rfl, hb⟩))
  have HF1 := hid (HF.out.same (hb.block x HF.out.lt))
  have HN1 := hid ((hb.block u hX).trans HNB.out)
  have HB1 := hid (HB.out.trans (Mod.ofBelow hb) (fun _ _ h => h))
  clear hb HF HNB HB HT HA
  have n0 := HF1.out.num.1
  have n1 := HF1.out.num.2
  go_wp2_with fail
  go_quiet (fail)
  go_wp2_with fail
  have HF2 : Hid (FwAt 212 (wa.drewN nq) x F) := hid HF1.out
  have HN2 : Hid ((wa.drewN nq).heap[u]? = some (.cells #[.int .i64 s, .int .u32 g] 30 (0, 0))) := hid HN1.out
  have HB2 : Hid (Mod (· = x) w (wa.drewN nq)) := hid (mod_drewN HB1.out)
  clear n0 n1 HF1 HN1 HB1
  generalize wa.drewN nq = wb at *
  refine wp_region_seqI 7 (Turn 6 (fun w1 => FwAt 212 w1 x F ∧ Mod (· = x) wb w1) (fun w1 => FwAt 212 w1 x (F.ins i y s g) ∧ Mod (· = x) wb w1)) (by kernel_rfl) (by kernel_rfl) (by kernel_rfl) (Turn.start ⟨HF2.out, (Mod.refl _ _).drew⟩) ?_
  dsimp only [List.take]
  iterate 6
    refine Seq.calm (a' := ?_) (by decide) ?_ ?_ ?_
    rotate_left
    ·
      intro w1 hw1
      have hM := hw1.elim (fun h => h.2) (fun h => h.2)
      have hu := (hM.block u (lt_of_block HN2.out) HX.out).trans HN2.out
      have u0 := cell_of hu 0
      have u1 := cell_of hu 1
      clear hM hu hw1
      go_wp2_with (fail)
      first | (refine ⟨?_, id, id⟩; exact rfl) | (refine ⟨?_, fail⟩; exact rfl)
    · kernel_rfl
  refine Seq.turn (a' := ?_) ?_ ?_ ?_
  rotate_left
  ·
    intro w1 hw1
    have HF1 := hid hw1.1
    have HM1 := hid hw1.2
    clear hw1
    go_wp2_with (go_at_call 176; refine (HP.out _ HF1.out).mono ?_; rintro e w2 ⟨rfl, hF2, hM2⟩)
    refine ⟨?_, hF2, HM1.out.trans hM2 (fun _ _ h => h)⟩
    exact rfl
  · kernel_rfl
  iterate 0
    refine Seq.calm (a' := ?_) (by decide) ?_ ?_ ?_
    rotate_left
    ·
      intro w1 hw1
      have hM := hw1.elim (fun h => h.2) (fun h => h.2)
      have hu := (hM.block u (lt_of_block HN2.out) HX.out).trans HN2.out
      have u0 := cell_of hu 0
      have u1 := cell_of hu 1
      clear hM hu hw1
      go_wp2_with (fail)
      first | (refine ⟨?_, id, id⟩; exact rfl) | (refine ⟨?_, fail⟩; exact rfl)
    · kernel_rfl
  refine SeqI.nil ?_
  intro D w1 hD hI
  replace hI := hI.done (hD 6 (by omega))
  clear hD
  dsimp only [List.drop]
  go_wp2
  go_ret
  exact ⟨rfl, hI.1, HB2.out.trans hI.2 (fun _ _ h => h)⟩
end Go.Proofs.YtnngicopphiaaaaGreatDoor.F

namespace Go.Burg
open Go Go.RowKit
def MOwn (x gr gu : Nat) (i : Nat) : Prop := i = x ∨ i = gr ∨ i = gu
def Mw.mid (M : Mw) (p b v : Nat) (u : Bool) (s g : Int) (b1 b2 b3 : Bool) : Mw :=
  { at' := (cond b3 (M.setA b v) M).at', s := (cond b2 (M.setR p s g) M).s, g := (cond b2 (M.setR p s g) M).g, u := (cond b1 (M.setU p u) M).u }
theorem Mw.mid1 (M : Mw) (p b v : Nat) (u : Bool) (s g : Int) (b2 b3 : Bool) : (M.mid p b v u s g false b2 b3).setU p u = M.mid p b v u s g true b2 b3 := by cases b2 <;> cases b3 <;> rfl
theorem Mw.mid2 (M : Mw) (p b v : Nat) (u : Bool) (s g : Int) (b1 b3 : Bool) : (M.mid p b v u s g b1 false b3).setR p s g = M.mid p b v u s g b1 true b3 := by cases b1 <;> cases b3 <;> rfl
theorem Mw.mid3 (M : Mw) (p b v : Nat) (u : Bool) (s g : Int) (b1 b2 : Bool) : (M.mid p b v u s g b1 b2 false).setA b v = M.mid p b v u s g b1 b2 true := by cases b1 <;> cases b2 <;> rfl
def Mw.lay (M : Mw) (p b : Nat) (s g : Int) : Mw := M.mid p b (p + 1) true s g true true true
def Mw.lift (M : Mw) (p b : Nat) : Mw := M.mid p b 0 false 0 0 true true true
end Go.Burg
namespace Go.Proofs.YtnngicopphiaaaaGreatDoor.M
set_option maxRecDepth 8000
open Go.ChangeShapes Go.WideShapes Go.ChangeAt Go.RowKit Go.Burg
section
variable {w : World} {x gr gu r : Nat} {M : Mw}
set_option maxHeartbeats 4000000 in
theorem lay_at (b p : Nat) (s g : Int) (hb : b < 256) (h : ManyAt 219 30 4 w x gr gu r M) (hp : FirstFree M r p) :
    Calls Tryz.prog 194 #[.pointer (some ⟨x, 0, none⟩), .int .i64 b, .agg #[.int .i64 s, .int .u32 g]] w fun e w' => e = .returned (.bool true) ∧ ManyAt 219 30 4 w' x gr gu r (M.lay p b s g) ∧ Mod (MOwn x gr gu) w w' := by
  have hA := h.alloc (.cells #[.int .i64 s, .int .u32 g] 30 (0, 0))
  have hN := heap_new w (.cells #[.int .i64 s, .int .u32 g] 30 (0, 0))
  have hx : ¬ MOwn x gr gu w.heap.size := by have := h.lt; rintro (e | e | e) <;> omega
  have hB : Mod (MOwn x gr gu) w (w.alloc (.cells #[.int .i64 s, .int .u32 g] 30 (0, 0))) := (Mod.refl _ _).alloc _
  have HI := hid (index_at p hA hp)
  have hr := h.r2
  have hpr := hp.1
  have c2 := h.head.2
  have hxl := h.lt.1
  have HP := hid hp
  have HBB := hid hb
  have hd0 : decide (r ≤ p) = false := by simp; omega
  have hd1 : decide (256 ≤ b) = false := by simp; omega
  have HA := hid hA
  have HNB := hid hN
  have HB := hid hB
  have HX := hid hx
  clear h hA hN hB hx hp
  go_enter Tryz.func194, Tryz.ntmps194
  go_wp2_with fail
  generalize hW : w.alloc (.cells #[.int .i64 s, .int .u32 g] 30 (0, 0)) = W at *
  generalize hu : w.heap.size = c at *
  have HW := hid hW
  have HU := hid hu
  clear hW hu
  refine HI.out.mono ?_
  rintro e w2 ⟨rfl, rfl⟩
  go_wp2_with fail
  clear c2 HI hxl
  have HN2 := HNB
  clear HNB
  refine wp_region_seqI 24 (Turn3 17 19 23 (fun b1 b2 b3 w1 => ManyAt 219 30 4 w1 x gr gu r (M.mid p b (p + 1) true s g b1 b2 b3) ∧ Mod (MOwn x gr gu) W w1)) (by kernel_rfl) (by kernel_rfl) (by kernel_rfl) (Turn3.start ⟨HA.out.same rfl rfl rfl, (Mod.refl _ _).drew⟩) ?_
  dsimp only [List.take]
  iterate 17
    refine Seq3.calm (a' := ?_) (by decide) (by decide) (by decide) ?_ ?_ ?_
    rotate_left
    ·
      intro b1 b2 b3 w1 hw1
      have HW1 := hid hw1
      have hu := (hw1.2.block c (lt_of_block HN2.out) HX.out).trans HN2.out
      have u0 := cell_of hu 0
      have u1 := cell_of hu 1
      have e1 := hw1.1.head.1
      have e2 := hw1.1.head.2
      clear hu
      clear hw1
      go_wp2_with (fail)
      refine ⟨?_, HW1.out⟩
      exact rfl
    · kernel_rfl
  refine Seq3.at1 (a' := ?_) (by decide) (by decide) ?_ ?_ ?_
  rotate_left
  ·
    intro b2 b3 w1 hw1
    have HW1 := hid hw1
    obtain ⟨k0, k1⟩ := hw1.1.used HP.out.1
    clear hw1
    go_wp2_with fail
    refine ⟨?_, by have := HW1.out.1.setU HP.out.1 true; rwa [Mw.mid1] at this, HW1.out.2.setCell (p := ⟨gu, p, none⟩) (.inl (.inr (.inr rfl))) _⟩
    exact rfl
  · kernel_rfl
  iterate 1
    refine Seq3.calm (a' := ?_) (by decide) (by decide) (by decide) ?_ ?_ ?_
    rotate_left
    ·
      intro b1 b2 b3 w1 hw1
      have HW1 := hid hw1
      have hu := (hw1.2.block c (lt_of_block HN2.out) HX.out).trans HN2.out
      have u0 := cell_of hu 0
      have u1 := cell_of hu 1
      have e1 := hw1.1.head.1
      have e2 := hw1.1.head.2
      clear hu
      clear hw1
      go_wp2_with (fail)
      refine ⟨?_, HW1.out⟩
      exact rfl
    · kernel_rfl
  refine Seq3.at2 (a' := ?_) (by decide) (by decide) ?_ ?_ ?_
  rotate_left
  ·
    intro b1 b3 w1 hw1
    have HW1 := hid hw1
    obtain ⟨k0, k1, kf⟩ := hw1.1.ref HP.out.1
    clear hw1
    go_wp2_with fail
    refine ⟨?_, by have := HW1.out.1.setR HP.out.1 s g; rwa [Mw.mid2] at this, (HW1.out.2.setCell (p := ⟨gr, p * 2, none⟩) (.inl (.inr (.inl rfl))) _).setCell (p := ⟨gr, p * 2 + 1, none⟩) (.inl (.inr (.inl rfl))) _⟩
    exact rfl
  · kernel_rfl
  iterate 3
    refine Seq3.calm (a' := ?_) (by decide) (by decide) (by decide) ?_ ?_ ?_
    rotate_left
    ·
      intro b1 b2 b3 w1 hw1
      have HW1 := hid hw1
      have hu := (hw1.2.block c (lt_of_block HN2.out) HX.out).trans HN2.out
      have u0 := cell_of hu 0
      have u1 := cell_of hu 1
      have e1 := hw1.1.head.1
      have e2 := hw1.1.head.2
      clear hu
      clear hw1
      go_wp2_with (fail)
      refine ⟨?_, HW1.out⟩
      exact rfl
    · kernel_rfl
  refine Seq3.at3 (a' := ?_) (by decide) (by decide) ?_ ?_ ?_
  rotate_left
  ·
    intro b1 b2 w1 hw1
    have HW1 := hid hw1
    obtain ⟨k0, k1⟩ := hw1.1.at1 HBB.out
    clear hw1
    go_wp2_with fail
    refine ⟨?_, by have := HW1.out.1.setA HBB.out (v := p + 1) HP.out.1; rwa [Mw.mid3] at this, HW1.out.2.setCell (p := ⟨x, b, none⟩) (.inl (.inl rfl)) _⟩
    exact rfl
  · kernel_rfl
  iterate 0
    refine Seq3.calm (a' := ?_) (by decide) (by decide) (by decide) ?_ ?_ ?_
    rotate_left
    ·
      intro b1 b2 b3 w1 hw1
      have HW1 := hid hw1
      have hu := (hw1.2.block c (lt_of_block HN2.out) HX.out).trans HN2.out
      have u0 := cell_of hu 0
      have u1 := cell_of hu 1
      have e1 := hw1.1.head.1
      have e2 := hw1.1.head.2
      clear hu
      clear hw1
      go_wp2_with (fail)
      refine ⟨?_, HW1.out⟩
      exact rfl
    · kernel_rfl
  refine SeqI.nil ?_
  intro D w1 hD hI
  replace hI := hI.done (hD 17 (by omega)) (hD 19 (by omega)) (hD 23 (by omega))
  clear hD
  dsimp only [List.drop]
  go_wp2
  go_ret
  exact ⟨rfl, hI.1, HB.out.trans hI.2 (fun _ _ h => h)⟩
end
end Go.Proofs.YtnngicopphiaaaaGreatDoor.M

namespace Go.Burg
open Go
theorem findK_cons (a : Kd) (L : List Kd) (y : Int) : findK (a :: L) y = if a.b = y then some a else findK L y := by
  unfold findK
  rw [List.find?_cons]
  by_cases h : a.b = y <;> simp [h]
theorem findK_append (A B : List Kd) (y : Int) : findK (A ++ B) y = (findK A y).or (findK B y) := by
  unfold findK
  rw [List.find?_append]
theorem findK_b {L : List Kd} {y : Int} {k : Kd} (h : findK L y = some k) : k.b = y ∧ k ∈ L := by
  have h1 := List.find?_some h
  exact ⟨by simpa using h1, List.mem_of_find?_eq_some h⟩
theorem rise_ext : ∀ {L L' : List Kd}, Rise L → Rise L' → (∀ y, findK L y = findK L' y) → L = L'
  | [], [], _, _, _ => rfl
  | [], b :: L', _, _, h => by have := h b.b; rw [findK_cons, if_pos rfl] at this; cases this
  | a :: L, [], _, _, h => by have := h a.b; rw [findK_cons, if_pos rfl] at this; cases this
  | a :: L, b :: L', h1, h2, h => by
    have ha := List.pairwise_cons.1 h1
    have hb := List.pairwise_cons.1 h2
    have hab : a = b := by
      have e1 := h a.b
      have e2 := h b.b
      rw [findK_cons, if_pos rfl, findK_cons] at e1
      rw [findK_cons (a := b), if_pos rfl, findK_cons] at e2
      by_cases hh : b.b = a.b
      · rw [if_pos hh] at e1; exact Option.some.inj e1
      · rw [if_neg hh] at e1
        rw [if_neg (fun e => hh e.symm)] at e2
        have m1 := findK_b e1.symm
        have m2 := findK_b e2
        have := hb.1 a m1.2
        have := ha.1 b m2.2
        omega
    subst hab
    refine congrArg (a :: ·) (rise_ext ha.2 hb.2 fun y => ?_)
    have := h y
    rw [findK_cons, findK_cons] at this
    by_cases hy : a.b = y
    · have n1 : ∀ {L : List Kd}, (∀ k ∈ L, a.b < k.b) → findK L y = none := fun {L} hl => by
        unfold findK
        rw [List.find?_eq_none]
        intro k hk
        have := hl k hk
        simp
        omega
      rw [n1 ha.1, n1 hb.1]
    · rwa [if_neg hy, if_neg hy] at this
theorem findK_ins {L : List Kd} {k : Kd} (y : Int) (hn : findK L k.b = none) : findK (insK L k) y = if k.b = y then some k else findK L y := by
  have e : findK L y = findK (L.takeWhile (ltK k.b) ++ L.dropWhile (ltK k.b)) y := by rw [List.takeWhile_append_dropWhile]
  unfold insK
  rw [findK_append, findK_cons]
  by_cases hy : k.b = y
  · rw [if_pos hy, if_pos hy]
    have : findK (L.takeWhile (ltK k.b)) y = none := by
      subst hy
      unfold findK at hn ⊢
      rw [List.find?_eq_none] at hn ⊢
      exact fun z hz => hn z ((List.takeWhile_prefix _).subset hz)
    rw [this]; rfl
  · rw [if_neg hy, if_neg hy, e, findK_append]
theorem findK_turn (L : List Kd) (b s g y : Int) : findK (turnK L b s g) y = if b = y then (findK L y).map (fun _ => ⟨b, s, g⟩) else findK L y := by
  induction L with
  | nil => simp [turnK, findK]
  | cons a L ih =>
    have e : turnK (a :: L) b s g = (if a.b = b then ⟨b, s, g⟩ else a) :: turnK L b s g := rfl
    rw [e, findK_cons, findK_cons, ih]
    by_cases h1 : a.b = b
    · rw [if_pos h1]
      by_cases h2 : b = y
      · have h3 : a.b = y := h1.trans h2
        simp [h2, h3]
      · have h3 : ¬ a.b = y := fun e => h2 (h1.symm.trans e)
        simp [h2, h3]
    · rw [if_neg h1]
      by_cases h2 : b = y
      · have h3 : ¬ a.b = y := fun e => h1 (e.trans h2.symm)
        simp [h2, h3]
      · simp [h2]
theorem findK_del (L : List Kd) (b y : Int) : findK (delK L b) y = if b = y then none else findK L y := by
  induction L with
  | nil => simp [delK, findK]
  | cons a L ih =>
    by_cases h1 : a.b = b
    · have e : delK (a :: L) b = delK L b := by simp [delK, h1]
      rw [e, ih, findK_cons]
      by_cases h2 : b = y
      · simp [h2]
      · have h3 : ¬ a.b = y := fun e => h2 (h1.symm.trans e)
        simp [h2, h3]
    · have e : delK (a :: L) b = a :: delK L b := by simp [delK, h1]
      rw [e, findK_cons, findK_cons, ih]
      by_cases h2 : b = y
      · have h3 : ¬ a.b = y := fun e => h1 (e.trans h2.symm)
        simp [h2, h3]
      · simp [h2]
theorem insK_mem {L : List Kd} {k z : Kd} (h : z ∈ insK L k) : z = k ∨ z ∈ L := by
  unfold insK at h
  rcases List.mem_append.1 h with h | h
  · exact .inr ((List.takeWhile_prefix _).subset h)
  · rcases List.mem_cons.1 h with h | h
    · exact .inl h
    · exact .inr ((List.dropWhile_suffix _).subset h)
theorem turnK_mem {L : List Kd} {b s g : Int} {z : Kd} (h : z ∈ turnK L b s g) : ∃ k ∈ L, z.b = k.b := by
  obtain ⟨k, hk, rfl⟩ := List.mem_map.1 h
  refine ⟨k, hk, ?_⟩
  by_cases e : k.b = b
  · rw [if_pos e]; exact e.symm
  · rw [if_neg e]
def Mw.look (M : Mw) (b : Nat) : Option Kd := if M.at' b = 0 then none else some ⟨b, M.s (M.at' b - 1), M.g (M.at' b - 1)⟩
def Mw.upto (M : Mw) (n : Nat) : List Kd := (List.range n).filterMap M.look
structure MLook (M : Mw) (L : List Kd) : Prop where
  rise : Rise L
  rng : ∀ k ∈ L, 0 ≤ k.b ∧ k.b < 256
  look : ∀ b : Nat, b < 256 → M.look b = findK L b
structure MIs (M : Mw) (r : Nat) (L : List Kd) : Prop where
  l : MLook M L
  inj : ∀ b b', b < 256 → b' < 256 → M.at' b = M.at' b' → M.at' b ≠ 0 → b = b'
  top : ∀ b, b < 256 → M.at' b ≤ L.length
  u : ∀ p, p < r → M.u p = decide (p < L.length)
theorem Mw.upto_rise (M : Mw) : ∀ n, Rise (M.upto n) ∧ ∀ k ∈ M.upto n, 0 ≤ k.b ∧ k.b < n := by
  intro n
  induction n with
  | zero => exact ⟨List.Pairwise.nil, fun k hk => by cases hk⟩
  | succ n ih =>
    obtain ⟨h1, h2⟩ := ih
    have e : M.upto (n + 1) = M.upto n ++ (M.look n).toList := by
      unfold Mw.upto
      rw [List.range_succ, List.filterMap_append]
      cases h : M.look n <;> simp [h]
    rw [e]
    have hl : ∀ k ∈ (M.look n).toList, k.b = n := fun k hk => by
      unfold Mw.look at hk
      split at hk
      · simp at hk
      · simp at hk; subst hk; rfl
    refine ⟨List.pairwise_append.2 ⟨h1, ?_, fun a ha b hb => ?_⟩, fun k hk => ?_⟩
    · cases M.look n <;> simp
    · have := (h2 a ha).2; have := hl b hb; omega
    · rcases List.mem_append.1 hk with hk | hk
      · have := h2 k hk; omega
      · have := hl k hk; omega
theorem Mw.upto_find (M : Mw) (n : Nat) (y : Int) : findK (M.upto n) y = if 0 ≤ y ∧ y < n then M.look y.toNat else none := by
  induction n with
  | zero => rw [if_neg (by omega)]; rfl
  | succ n ih =>
    have e : M.upto (n + 1) = M.upto n ++ (M.look n).toList := by
      unfold Mw.upto
      rw [List.range_succ, List.filterMap_append]
      cases h : M.look n <;> simp [h]
    rw [e, findK_append, ih]
    have hl : findK (M.look n).toList y = if y = n then M.look n else none := by
      unfold Mw.look
      split
      · simp [findK]
      · by_cases hy : y = n
        · simp [findK, hy]
        · have : ¬ ((n : Int) = y) := fun e => hy e.symm
          simp [findK, hy, this]
    rw [hl]
    by_cases h1 : 0 ≤ y ∧ y < n
    · rw [if_pos h1, if_neg (by omega), if_pos (by omega), Option.or_none]
    · rw [if_neg h1, Option.none_or]
      by_cases h2 : y = n
      · subst h2
        rw [if_pos rfl, if_pos (by omega)]
        simp
      · rw [if_neg h2, if_neg (by omega)]
theorem MLook.all {M : Mw} {L : List Kd} (h : MLook M L) : M.upto 256 = L := by
  refine rise_ext (M.upto_rise 256).1 h.rise fun y => ?_
  rw [M.upto_find]
  by_cases hy : 0 ≤ y ∧ y < ((256 : Nat) : Int)
  · rw [if_pos hy, h.look _ (by omega)]
    congr 1
    omega
  · rw [if_neg hy]
    cases hf : findK L y with
    | none => rfl
    | some k =>
      have := findK_b hf
      have := h.rng k this.2
      omega
theorem MIs.zero (r : Nat) : MIs ⟨fun _ => 0, fun _ => 0, fun _ => 0, fun _ => false⟩ r [] :=
  ⟨⟨List.Pairwise.nil, (fun k hk => by cases hk), fun b _ => rfl⟩, fun b b' _ _ _ h => absurd rfl h, fun b _ => Nat.zero_le _, fun p _ => by simp⟩
theorem MIs.free {M : Mw} {r : Nat} {L : List Kd} (h : MIs M r L) (hl : L.length < r) : FirstFree M r L.length :=
  ⟨hl, by rw [h.u _ hl]; simp, fun j hj => by rw [h.u j (by omega)]; simpa using hj⟩
theorem Mw.at0 {M : Mw} {L : List Kd} (h : MLook M L) {b : Nat} (hb : b < 256) : M.at' b = 0 ↔ findK L b = none := by
  rw [← h.look b hb]
  unfold Mw.look
  by_cases e : M.at' b = 0 <;> simp [e]
theorem Mw.atp {M : Mw} {L : List Kd} (h : MLook M L) {b : Nat} (hb : b < 256) {k : Kd} (hk : findK L b = some k) : ∃ p, M.at' b = p + 1 ∧ M.s p = k.s ∧ M.g p = k.g := by
  rw [← h.look b hb] at hk
  unfold Mw.look at hk
  by_cases e : M.at' b = 0
  · rw [if_pos e] at hk; cases hk
  · rw [if_neg e] at hk
    cases hk
    exact ⟨M.at' b - 1, by omega, rfl, rfl⟩
theorem MIs.lay {M : Mw} {r : Nat} {L : List Kd} (h : MIs M r L) {b : Nat} (s g : Int) (hb : b < 256) (hn : findK L b = none) : MIs (M.lay L.length b s g) r (insK L ⟨b, s, g⟩) := by
  have hl := insK_len L ⟨b, s, g⟩
  have eat : ∀ j, (M.lay L.length b s g).at' j = if j = b then L.length + 1 else M.at' j := fun j => rfl
  have es : ∀ j, (M.lay L.length b s g).s j = if j = L.length then s else M.s j := fun j => rfl
  have eg : ∀ j, (M.lay L.length b s g).g j = if j = L.length then g else M.g j := fun j => rfl
  have eu : ∀ j, (M.lay L.length b s g).u j = if j = L.length then true else M.u j := fun j => rfl
  refine ⟨⟨insK_rise h.l.rise hn, fun k hk => ?_, fun j hj => ?_⟩, fun i j hi hj e1 e2 => ?_, fun j hj => ?_, fun p hp => ?_⟩
  · rcases insK_mem hk with rfl | hk
    · exact ⟨by simp, by show (b : Int) < 256; omega⟩
    · exact h.l.rng k hk
  · rw [findK_ins _ hn]
    unfold Mw.look
    rw [eat, es, eg]
    by_cases e : j = b
    · subst e; simp
    · have e' : ¬ ((b : Int) = (j : Int)) := by omega
      simp only [if_neg e]
      rw [if_neg e', ← h.l.look j hj]
      unfold Mw.look
      by_cases e0 : M.at' j = 0
      · rw [if_pos e0, if_pos e0]
      · have := h.top j hj
        rw [if_neg e0, if_neg e0, if_neg (by omega), if_neg (by omega)]
  · rw [eat] at e1 e2
    rw [eat] at e1
    by_cases ei : i = b
    · by_cases ej : j = b
      · omega
      · rw [if_pos ei, if_neg ej] at e1
        have := h.top j hj
        omega
    · by_cases ej : j = b
      · rw [if_neg ei, if_pos ej] at e1
        have := h.top i hi
        omega
      · rw [if_neg ei, if_neg ej] at e1
        rw [if_neg ei] at e2
        exact h.inj i j hi hj e1 e2
  · rw [eat, hl]
    have := h.top j hj
    split <;> omega
  · rw [eu, hl]
    by_cases e : p = L.length
    · simp [e]
    · rw [if_neg e, h.u p hp]
      simp; omega
theorem MIs.turn {M : Mw} {r : Nat} {L : List Kd} (h : MIs M r L) {b p : Nat} (s g : Int) (hb : b < 256) (hp : M.at' b = p + 1) : MIs (M.setR p s g) r (turnK L b s g) := by
  have hl : (turnK L b s g).length = L.length := by simp [turnK]
  refine ⟨⟨turnK_rise h.l.rise _ _ _, fun k hk => ?_, fun j hj => ?_⟩, h.inj, fun j hj => by rw [hl]; exact h.top j hj, fun q hq => by rw [hl]; exact h.u q hq⟩
  · obtain ⟨k', hk', e⟩ := turnK_mem hk
    rw [e]; exact h.l.rng k' hk'
  · rw [findK_turn, ← h.l.look j hj]
    unfold Mw.look Mw.setR
    by_cases e : j = b
    · subst e
      simp only [hp]
      simp
    · have e' : ¬ ((b : Int) = (j : Int)) := by omega
      rw [if_neg e']
      by_cases e0 : M.at' j = 0
      · simp only [if_pos e0]
      · have : ¬ (M.at' j - 1 = p) := fun e2 => e (h.inj j b hj hb (by omega) e0)
        simp only [if_neg e0, if_neg this]
theorem MIs.lift {M : Mw} {r : Nat} {L : List Kd} (h : MIs M r L) {b p : Nat} (hb : b < 256) (hp : M.at' b = p + 1) : MLook (M.lift p b) (delK L b) := by
  refine ⟨delK_rise h.l.rise _, fun k hk => h.l.rng k (List.mem_filter.1 hk).1, fun j hj => ?_⟩
  have eat : ∀ j, (M.lift p b).at' j = if j = b then 0 else M.at' j := fun j => rfl
  have es : ∀ j, (M.lift p b).s j = if j = p then 0 else M.s j := fun j => rfl
  have eg : ∀ j, (M.lift p b).g j = if j = p then 0 else M.g j := fun j => rfl
  rw [findK_del, ← h.l.look j hj]
  unfold Mw.look
  rw [eat, es, eg]
  by_cases e : j = b
  · subst e; simp
  · have e' : ¬ ((b : Int) = (j : Int)) := by omega
    simp only [if_neg e]
    rw [if_neg e']
    by_cases e0 : M.at' j = 0
    · rw [if_pos e0, if_pos e0]
    · have : ¬ (M.at' j - 1 = p) := fun e2 => e (h.inj j b hj hb (by omega) e0)
      rw [if_neg e0, if_neg e0, if_neg this, if_neg this]
end Go.Burg
