/- PurseFits: the walk. -/
import Derived.Test.YtkdimkaladbnpaaPurseOnce
import Derived.Test.YtkdimkaladbnpaaCopy
import Derived.Test.YtkdimkaladbnpaaAnc
import Derived.Test.YtkdimkaladbnpaaFitsM
import Derived.Deep.DeepCutAuto
namespace Go.Proofs.Ytkdimkaladbnpaa
open Go.ChangeShapes Go.WideShapes Go.ChangeAt Go.RowKit Go.Burg
open Go.Burg.Purse

theorem fld0 (x y : Value) (w : World) : Sem.run Try.prog (Instr.field 24 (.agg #[x, y]) 0) w = .ok x w := rfl
theorem fld1 (x y : Value) (w : World) : Sem.run Try.prog (Instr.field 24 (.agg #[x, y]) 1) w = .ok y w := rfl
theorem heap_at {w : World} {n : Nat} (o : Obj) (h : w.heap.size = n) : (w.alloc o).heap[n]? = some o := by subst h; exact heap_new w o
set_option maxHeartbeats 1000000 in
/-- Where a copy lies. -/
theorem copy_is {w : World} {b m : Nat} {s : St} (hP : PurseAt w b m s) :
    Calls Try.prog 21 #[.pointer (some ⟨b, 0, none⟩)] w fun e w' => e = .returned (.pointer (some ⟨w.heap.size + 1, 0, none⟩)) ∧ PurseAt w' (w.heap.size + 1) w.heap.size s ∧ w'.heap.size = w.heap.size + 2 ∧ Below w.heap.size w w' := by
  obtain ⟨es, clock, hm, hrest⟩ := hP.2
  have hbm := hP.lt
  have HP1 := hid hP.1
  have HM := hid hm
  have HR := hid hrest
  have HNo := hid (none_no b m s.xk s.xb s.hk s.hb s.kk s.kb s.last w hP.1)
  clear hm hrest hP
  go_enter Try.func21, Try.ntmps21
  go_wp2_with (go_at_call 39; refine HNo.out.mono ?_; rintro e w' ⟨rfl, rfl⟩)
  refine wp_region_seqI 13 (Turn 8 (fun w1 => Below w.heap.size w w1 ∧ w1.heap.size = w.heap.size) (fun w1 => Below w.heap.size w w1 ∧ w1.heap[w.heap.size]? = some (.map es clock) ∧ w1.heap.size = w.heap.size + 1)) (by kernel_rfl) (by kernel_rfl) (by kernel_rfl) (Turn.start ⟨⟨rfl, rfl, rfl, Nat.le_refl _, fun _ _ => rfl⟩, rfl⟩) ?_
  dsimp only [List.take]
  iterate 8
    refine Seq.calm (a' := ?_) (by decide) ?_ ?_ ?_
    rotate_left
    ·
      intro w1 hw1
      have hB : Below w.heap.size w w1 := by rcases hw1 with h | h <;> exact h.1
      have k0 := blk_below HP1.out hB hbm.1
      obtain ⟨c0, c1, c2, c3, c4, c5, c6, c7, cf, cl⟩ := pfacts k0
      clear hw1 k0 hB
      go_wp2_with (fail)
      refine ⟨?_, id, id⟩
      exact rfl
    · kernel_rfl
  refine Seq.turn (a' := ?_) ?_ ?_ ?_
  rotate_left
  ·
    intro w1 hw1
    have hm1 := blk_below HM.out hw1.1 hbm.2
    have HB := hid hw1.1
    have HZ := hid hw1.2
    clear hw1
    go_wp2_with (go_at_call 41; refine (clone_any m es clock w1 hm1).mono ?_; rintro e w2 ⟨rfl, rfl⟩)
    refine ⟨?_, HB.out.alloc HB.out.size _, by rw [← HZ.out]; exact heap_new _ _, by simp [HZ.out]⟩
    rw [HZ.out]
  · kernel_rfl
  iterate 4
    refine Seq.calm (a' := ?_) (by decide) ?_ ?_ ?_
    rotate_left
    ·
      intro w1 hw1
      have hB : Below w.heap.size w w1 := by rcases hw1 with h | h <;> exact h.1
      have k0 := blk_below HP1.out hB hbm.1
      obtain ⟨c0, c1, c2, c3, c4, c5, c6, c7, cf, cl⟩ := pfacts k0
      clear hw1 k0 hB
      go_wp2_with (fail)
      refine ⟨?_, id, id⟩
      exact rfl
    · kernel_rfl
  refine SeqI.nil ?_
  intro D w1 hD hI
  replace hI := hI.done (hD 8 (by omega))
  clear hD
  dsimp only [List.drop]
  obtain ⟨hB, hm2, hz⟩ := hI
  have HM2 := hid hm2
  have HB := hid hB
  have HZ := hid hz
  clear hB hm2 hz
  go_wp2_with fail
  go_ret
  refine ⟨by rw [HZ.out]; rfl, ⟨?_, es, clock, blk_alloc HM2.out, HR.out⟩, by simp [HZ.out], HB.out.alloc HB.out.size _⟩
  exact heap_at _ HZ.out


/-- The purse, its three copies, and the boxes with its balance and its bound amount. -/
structure F4 (w : World) (b m hx H : Nat) (s s1 s2 s3 : St) (w1 : World) : Prop where
  p : PurseAt w1 b m s
  q : PurseAt w1 (H + 1) H s1
  r : PurseAt w1 (H + 3) (H + 2) s2
  t : PurseAt w1 (H + 5) (H + 4) s3
  kh : w1.heap[hx]? = some (.cells #[.int .u64 s.hk, .int .u64 s.hb] 24)
  kb : w1.heap[hx + 1]? = some (.cells #[.int .u64 (s.hk + s.kk), .int .u64 (s.hb + s.kb)] 24)
  mod : Mod (fun i => w.heap.size ≤ i) w w1
  lb : b < H
  lm : m < H
  lx : hx + 2 < H
  l1 : w.heap.size ≤ H
section
variable {w : World} {b m hx H : Nat} {s s1 s2 s3 s' : St} {w1 w2 : World}
theorem F4.keep (h : F4 w b m hx H s s1 s2 s3 w1) (hb : Below w1.heap.size w1 w2) : F4 w b m hx H s s1 s2 s3 w2 :=
  ⟨h.p.keep hb, h.q.keep hb, h.r.keep hb, h.t.keep hb, blk_below h.kh hb (lt_of_block h.kh), blk_below h.kb hb (lt_of_block h.kb), mod_bel h.mod hb, h.lb, h.lm, h.lx, h.l1⟩
theorem F4.mod4 (h : F4 w b m hx H s s1 s2 s3 w1) {b' m' : Nat} (hM : Mod (Own b' m') w1 w2) (h1 : H ≤ b') (h2 : H ≤ m') : Mod (fun i => w.heap.size ≤ i) w w2 :=
  mod_new h.mod hM (Nat.le_trans h.l1 h1) (Nat.le_trans h.l1 h2)
theorem F4.off {b' m' i : Nat} {o : Obj} (hM : Mod (Own b' m') w1 w2) (h1 : H ≤ b') (h2 : H ≤ m') (hi : i < H) (ho : w1.heap[i]? = some o) : w2.heap[i]? = some o :=
  (hM.block i (lt_of_block ho) (by rintro (e | e) <;> omega)).trans ho
theorem F4.turn_q (h : F4 w b m hx H s s1 s2 s3 w1) (hp : PurseAt w2 (H + 1) H s') (hM : Mod (Own (H + 1) H) w1 w2) : F4 w b m hx H s s' s2 s3 w2 := by
  have lb := h.lb; have lm := h.lm; have lx := h.lx
  exact ⟨h.p.mod hM (by rintro (e | e) <;> omega) (by rintro (e | e) <;> omega), hp, h.r.mod hM (by rintro (e | e) <;> omega) (by rintro (e | e) <;> omega), h.t.mod hM (by rintro (e | e) <;> omega) (by rintro (e | e) <;> omega),
    F4.off (H := H) hM (by omega) (by omega) (by omega) h.kh, F4.off (H := H) hM (by omega) (by omega) (by omega) h.kb, h.mod4 hM (by omega) (by omega), h.lb, h.lm, h.lx, h.l1⟩
theorem F4.turn_r (h : F4 w b m hx H s s1 s2 s3 w1) (hp : PurseAt w2 (H + 3) (H + 2) s') (hM : Mod (Own (H + 3) (H + 2)) w1 w2) : F4 w b m hx H s s1 s' s3 w2 := by
  have lb := h.lb; have lm := h.lm; have lx := h.lx
  exact ⟨h.p.mod hM (by rintro (e | e) <;> omega) (by rintro (e | e) <;> omega), h.q.mod hM (by rintro (e | e) <;> omega) (by rintro (e | e) <;> omega), hp, h.t.mod hM (by rintro (e | e) <;> omega) (by rintro (e | e) <;> omega),
    F4.off (H := H) hM (by omega) (by omega) (by omega) h.kh, F4.off (H := H) hM (by omega) (by omega) (by omega) h.kb, h.mod4 hM (by omega) (by omega), h.lb, h.lm, h.lx, h.l1⟩
theorem F4.turn_t (h : F4 w b m hx H s s1 s2 s3 w1) (hp : PurseAt w2 (H + 5) (H + 4) s') (hM : Mod (Own (H + 5) (H + 4)) w1 w2) : F4 w b m hx H s s1 s2 s' w2 := by
  have lb := h.lb; have lm := h.lm; have lx := h.lx
  exact ⟨h.p.mod hM (by rintro (e | e) <;> omega) (by rintro (e | e) <;> omega), h.q.mod hM (by rintro (e | e) <;> omega) (by rintro (e | e) <;> omega), h.r.mod hM (by rintro (e | e) <;> omega) (by rintro (e | e) <;> omega), hp,
    F4.off (H := H) hM (by omega) (by omega) (by omega) h.kh, F4.off (H := H) hM (by omega) (by omega) (by omega) h.kb, h.mod4 hM (by omega) (by omega), h.lb, h.lm, h.lx, h.l1⟩
/-- Another purse behind all these is turned. -/
theorem F4.turn_x (h : F4 w b m hx H s s1 s2 s3 w1) {b' m' : Nat} (hM : Mod (Own b' m') w1 w2) (h1 : H + 5 < b') (h2 : H + 5 < m') : F4 w b m hx H s s1 s2 s3 w2 := by
  have lb := h.lb; have lm := h.lm; have lx := h.lx
  exact ⟨h.p.mod hM (by rintro (e | e) <;> omega) (by rintro (e | e) <;> omega), h.q.mod hM (by rintro (e | e) <;> omega) (by rintro (e | e) <;> omega), h.r.mod hM (by rintro (e | e) <;> omega) (by rintro (e | e) <;> omega), h.t.mod hM (by rintro (e | e) <;> omega) (by rintro (e | e) <;> omega),
    F4.off (H := H) hM (by omega) (by omega) (by omega) h.kh, F4.off (H := H) hM (by omega) (by omega) (by omega) h.kb, h.mod4 hM (by omega) (by omega), h.lb, h.lm, h.lx, h.l1⟩

/-- With a copy that is made and paid out on the way. -/
structure F5 (w : World) (b m hx H : Nat) (s s1 s2 s3 s5 : St) (Hc : Nat) (b1 b2 : Bool) (w1 : World) : Prop where
  f : F4 w b m hx H s s1 s2 s3 w1
  no : b1 = false → w1.heap.size = Hc
  yes : b1 = true → PurseAt w1 (Hc + 1) Hc (cond b2 s5 s)
  lc : H + 5 < Hc
end

set_option maxRecDepth 100000 in
set_option maxHeartbeats 8000000 in
theorem fits_any (lk lb : Int) (a : Option Addr) (len cap : Nat) (ds : Nat → Int × Int × Int × Int) (k y : Int) (w : World) (hD : DeedsAt w a len ds) (h1 : 0 ≤ lk) (h2 : lk ≤ big) (h3 : 0 ≤ lb) (h4 : lb ≤ big) (hk0 : 0 ≤ k) (hk1 : k ≤ big) (hy0 : 0 ≤ y) (hy1 : y ≤ big) :
    Calls Try.prog 8 #[.agg #[.int .u64 lk, .int .u64 lb], .slice a len cap, .int .u64 k, .int .u64 y] w fun e w' => e = .returned (.bool true) ∧ Below w.heap.size w w' := by
  have HI := hid (Inv.new h1 h2 h3 h4)
  have HK := hid (And.intro hk0 (And.intro hk1 (And.intro hy0 hy1)))
  clear h1 h2 h3 h4 hk0 hk1 hy0 hy1
  go_enter Try.func8, Try.ntmps8
  go_wp2_with fail
  refine (awake_any _).mono ?_
  rintro e w1 ⟨rfl, hB⟩
  have hM1 : Mod (fun i => w.heap.size ≤ i) w w1 := mod_bel ((Mod.refl _ _).alloc _) hB
  have hN := blk_below (heap_new w (.cells #[.int .u64 lk, .int .u64 lb] 24)) hB (by simp)
  have n0 := cell_of hN 0
  have n1 := cell_of hN 1
  have hl1 := lt_of_block hN
  clear hB hN
  go_wp2_with fail
  refine (new_at lk lb _).mono ?_
  rintro e w2 ⟨b, m, rfl, hP, hb1, hm1, hX⟩
  have hM2 := mod_bel hM1 hX
  have hb : w.heap.size ≤ b := by omega
  have hm : w.heap.size ≤ m := by omega
  have HR : Hid (PurseAt w2 b m (St.new lk lb) ∧ Mod (fun i => w.heap.size ≤ i) w w2) := hid ⟨hP, hM2⟩
  clear hP hX hM1 hM2 n0 n1 hl1 hb1 hm1
  go_wp2_with fail
  go_loopw [10] (fun iv wr => ∃ (j : Nat) (s : St), j ≤ len ∧ j ≤ 100 ∧ iv = .int .i64 j ∧ Inv s ∧ s.last ≤ j ∧ PurseAt wr b m s ∧ Mod (fun i => w.heap.size ≤ i) w wr) (fun iv _ => 100 - (intOf iv).toNat)
  case atStart => exact ⟨0, _, Nat.zero_le _, by omega, rfl, HI.out, Int.le_refl _, HR.out.1, HR.out.2⟩
  case round =>
    clear HR HI
    obtain ⟨j, s, hj, hj2, rfl, hi, hl, hP, hM⟩ := hrel
    have HI := hid hi
    have HP := hid hP
    have HM := hid hM
    obtain ⟨rb, hrb⟩ : ∃ rb : Bool, decide (j < len ∧ j < 100) = rb := ⟨_, rfl⟩
    have HRB := hid hrb
    clear hrb hP hM hi
    go_upto_region 5 with fail
    go_cut [36] (fun v wx => v = .bool rb ∧ wx = wr)
    case first =>
      have hrb := HRB.out
      by_cases c1 : j < len
      · by_cases c2 : j < 100
        · go_wp2_with fail
          go_meet
          exact ⟨by rw [← hrb]; simp [c1, c2] <;> omega, rfl⟩
        · go_wp2_with fail
          go_meet
          exact ⟨by rw [← hrb]; simp [c2] <;> omega, rfl⟩
      · go_wp2_with fail
        go_meet
        exact ⟨by rw [← hrb]; simp [c1] <;> omega, rfl⟩
    case rest =>
    obtain ⟨rfl, rfl⟩ := hcut
    cases rb
    rotate_left
    · skip
      obtain ⟨hlt, hlt2⟩ : j < len ∧ j < 100 := by simpa using HRB.out
      have hM := HM.out
      have hP := HP.out
      have hi := HI.out
      obtain ⟨bl, off, ha, hbl, hall⟩ := hD (by omega)
      subst ha
      obtain ⟨⟨d0, d1, d2, d3⟩, hk0, hy0⟩ := hall j hlt
      generalize ds j = d at d0 d1 d2 d3 hk0 hy0
      obtain ⟨what, t, kk, yy⟩ := d
      simp only at d0 d1 d2 d3 hk0 hy0
      have hcell : ∀ o, wc.cell? ⟨bl, o, none⟩ = w.cell? ⟨bl, o, none⟩ := fun o => World.cell?_of_block (w := w) (hM.block bl hbl (by omega))
      have g0 := (hcell _).trans d0
      have g1 := (hcell _).trans d1
      have g2 := (hcell _).trans d2
      have g3 := (hcell _).trans d3
      have HA := hid (act_at hP hi (by omega) what t kk yy hk0 hy0)
      have hi' := hid (hi.act hk0 hy0 (what % 6) t)
      have hl' := hid (max_act hi (what % 6) t kk yy).2
      clear hall hcell d0 d1 d2 d3 hk0 hy0 hP hM hi
      go_wp2_with fail
      refine HA.out.mono ?_
      rintro e w3 ⟨rfl, hP3, hX⟩
      have HP3 := hid hP3
      have HM3 := hid (mod_new HM.out hX hb hm)
      clear hP3 hX
      go_wp2_with fail
      go_roundw
      case rel => exact ⟨j + 1, _, by omega, by omega, by go_num, hi'.out, (by have := hl'.out; omega), HP3.out, HM3.out⟩
      case measure => simp [intOf]; omega
    · skip
      clear HRB hD
      go_wp2_with fail
      refine (has_at HP.out).mono ?_
      rintro e wA ⟨rfl, hX⟩
      have HPA := hid (HP.out.keep hX)
      have HMA := hid (mod_bel HM.out hX)
      clear hX
      go_wp2_with fail
      refine (bound_at HPA.out HI.out).mono ?_
      rintro e wB ⟨rfl, hX⟩
      have HPB := hid (HPA.out.keep hX)
      have HMB := hid (mod_bel HMA.out hX)
      clear hX HPA HMA
      go_wp2_with fail
      refine (left_at HPB.out HI.out).mono ?_
      rintro e wC ⟨rfl, hX⟩
      have HPC := hid (HPB.out.keep hX)
      have HMC := hid (mod_bel HMB.out hX)
      clear hX HPB HMB HP HM
      go_wp2_with fail
      refine (open_at HPC.out).mono ?_
      rintro e wC' ⟨rfl, rfl⟩
      -- the three boxes
      have k0 : (((wC.alloc (.cells #[.int .u64 s.hk, .int .u64 s.hb] 24)).alloc (.cells #[.int .u64 (s.hk + s.kk), .int .u64 (s.hb + s.kb)] 24)).alloc (.cells #[.int .u64 (s.xk - (s.hk + s.kk)), .int .u64 (s.xb - (s.hb + s.kb))] 24)).heap[wC.heap.size]? = some (.cells #[.int .u64 s.hk, .int .u64 s.hb] 24) := blk_alloc (blk_alloc (heap_new _ _))
      have k1 : (((wC.alloc (.cells #[.int .u64 s.hk, .int .u64 s.hb] 24)).alloc (.cells #[.int .u64 (s.hk + s.kk), .int .u64 (s.hb + s.kb)] 24)).alloc (.cells #[.int .u64 (s.xk - (s.hk + s.kk)), .int .u64 (s.xb - (s.hb + s.kb))] 24)).heap[wC.heap.size + 1]? = some (.cells #[.int .u64 (s.hk + s.kk), .int .u64 (s.hb + s.kb)] 24) := blk_alloc (heap_at _ (by simp))
      have k2 : (((wC.alloc (.cells #[.int .u64 s.hk, .int .u64 s.hb] 24)).alloc (.cells #[.int .u64 (s.hk + s.kk), .int .u64 (s.hb + s.kb)] 24)).alloc (.cells #[.int .u64 (s.xk - (s.hk + s.kk)), .int .u64 (s.xb - (s.hb + s.kb))] 24)).heap[wC.heap.size + 2]? = some (.cells #[.int .u64 (s.xk - (s.hk + s.kk)), .int .u64 (s.xb - (s.hb + s.kb))] 24) := heap_at _ (by simp)
      have hM := ((HMC.out.alloc (.cells #[.int .u64 s.hk, .int .u64 s.hb] 24)).alloc (.cells #[.int .u64 (s.hk + s.kk), .int .u64 (s.hb + s.kb)] 24)).alloc (.cells #[.int .u64 (s.xk - (s.hk + s.kk)), .int .u64 (s.xb - (s.hb + s.kb))] 24)
      have hP := ((HPC.out.alloc (.cells #[.int .u64 s.hk, .int .u64 s.hb] 24)).alloc (.cells #[.int .u64 (s.hk + s.kk), .int .u64 (s.hb + s.kb)] 24)).alloc (.cells #[.int .u64 (s.xk - (s.hk + s.kk)), .int .u64 (s.xb - (s.hb + s.kb))] 24)
      go_upto_region 9 with fail
      generalize ((wC.alloc (.cells #[.int .u64 s.hk, .int .u64 s.hb] 24)).alloc (.cells #[.int .u64 (s.hk + s.kk), .int .u64 (s.hb + s.kb)] 24)).alloc (.cells #[.int .u64 (s.xk - (s.hk + s.kk)), .int .u64 (s.xb - (s.hb + s.kb))] 24) = W at *
      generalize wC.heap.size = hx at *
      obtain ⟨fb, hfb⟩ : ∃ fb : Bool, decide (s.fits k y) = fb := ⟨_, rfl⟩
      have HFB := hid hfb
      have HP := hid hP
      have HM := hid hM
      have K0 := hid k0
      have K1 := hid k1
      have K2 := hid k2
      clear hfb hP hM k0 k1 k2
      go_cut [15] (fun v wx => v = .bool fb ∧ wx = W)
      case first =>
        have c0 := cell_of K2.out 0
        have c1 := cell_of K2.out 1
        have hfb := HFB.out
        unfold St.fits at hfb
        by_cases f1 : k ≤ s.xk - (s.hk + s.kk)
        · by_cases f2 : y ≤ s.xb - (s.hb + s.kb)
          · obtain rfl : fb = true := by rw [← hfb]; exact decide_eq_true ⟨f1, f2⟩
            clear hfb
            go_wp2_with fail
            go_meet
            exact ⟨by first | rfl | simp [f1, f2], rfl⟩
          · obtain rfl : fb = false := by rw [← hfb]; exact decide_eq_false fun h => f2 h.2
            clear hfb
            go_wp2_with fail
            go_meet
            exact ⟨by first | rfl | simp [f2] | (simp; omega), rfl⟩
        · obtain rfl : fb = false := by rw [← hfb]; exact decide_eq_false fun h => f1 h.1
          clear hfb
          go_wp2_with fail
          go_meet
          exact ⟨by first | rfl | simp [f1] | (simp; omega), rfl⟩
      case rest =>
      obtain ⟨rfl, rfl⟩ := hcut
      go_wp2_with fail
      refine (copy_is HP.out).mono ?_
      rintro e w3 ⟨rfl, hq, hz3, hB⟩
      have HP3 := hid (HP.out.keep hB)
      have HM3 := hid (mod_bel HM.out hB)
      have K03 := hid (blk_below K0.out hB (lt_of_block K0.out))
      have K13 := hid (blk_below K1.out hB (lt_of_block K1.out))
      have hlx := lt_of_block K2.out
      have hlp := HP.out.lt
      have hH := HM.out.size
      clear hB
      obtain ⟨H, hHH⟩ : ∃ H, wc.heap.size = H := ⟨_, rfl⟩
      simp only [hHH] at hq hz3 hlx hlp hH ⊢
      have HHH := hid hHH
      clear hHH HP HM K0 K1 K2
      go_wp2_with fail
      refine (copy_is HP3.out).mono ?_
      rintro e w4 ⟨rfl, hr, hz4, hB⟩
      simp only [hz3] at hr hz4 ⊢
      have HP4 := hid (HP3.out.keep hB)
      have HM4 := hid (mod_bel HM3.out hB)
      have K04 := hid (blk_below K03.out hB (lt_of_block K03.out))
      have K14 := hid (blk_below K13.out hB (lt_of_block K13.out))
      have hq4 := hq.keep hB
      clear hB HP3 HM3 K03 K13 hq hz3
      go_wp2_with fail
      refine (copy_is HP4.out).mono ?_
      rintro e w5 ⟨rfl, ht, hz5, hB⟩
      simp only [hz4] at ht hz5 ⊢
      have HF : Hid (F4 w b m hx H s s s s w5) := hid ⟨HP4.out.keep hB, hq4.keep hB, hr.keep hB, ht, blk_below K04.out hB (lt_of_block K04.out), blk_below K14.out hB (lt_of_block K14.out), mod_bel HM4.out hB, hlp.1, hlp.2, hlx, hH⟩
      clear hB HP4 HM4 K04 K14 hq4 hz4 hr ht
      obtain ⟨n, e', sq, st, hres, htake, hyes, hno⟩ : ∃ n e' sq st, s.res k y = (n, e', sq) ∧ s.take k y = (e', st) ∧ (fb = true → n = s.last + 1 ∧ e' = 0 ∧ s.fits k y) ∧ (fb = false → n = 0 ∧ e' = 10 ∧ sq = s ∧ st = s) := by
        have hfb := HFB.out
        by_cases hf : s.fits k y
        · obtain rfl : fb = true := by rw [← hfb]; exact decide_eq_true hf
          exact ⟨_, _, _, _, if_pos hf, if_pos hf, fun _ => ⟨rfl, rfl, hf⟩, fun e => by cases e⟩
        · obtain rfl : fb = false := by rw [← hfb]; exact decide_eq_false hf
          exact ⟨_, _, _, _, if_neg hf, if_neg hf, (fun e => by cases e), fun _ => ⟨rfl, rfl, rfl, rfl⟩⟩
      have hl100 : s.last < 4000000000 := by omega
      have HRS := hid hres
      have HTK := hid htake
      have HY := hid hyes
      have HN := hid hno
      have hq0 := HI.out.res HK.out.1 HK.out.2.2.1
      have ht0 := HI.out.take HK.out.1 HK.out.2.2.1
      rw [hres] at hq0
      rw [htake] at ht0
      have HIQ : Hid (Inv sq) := hid hq0
      have HIT : Hid (Inv st) := hid ht0
      clear hres htake hyes hno hq0 ht0
      go_wp2_with fail
      have R := reserve_at HF.out.q HI.out hl100 k y HK.out.1 HK.out.2.2.1
      rw [HRS.out] at R
      refine R.mono ?_
      clear R
      rintro e w6 ⟨rfl, hp, hM⟩
      have HF6 := hid (HF.out.turn_q hp hM)
      clear hp hM
      go_wp2_with fail
      have R := reserve_at HF6.out.r HI.out hl100 k y HK.out.1 HK.out.2.2.1
      rw [HRS.out] at R
      refine R.mono ?_
      clear R
      rintro e w7 ⟨rfl, hp, hM⟩
      have HF7 := hid (HF6.out.turn_r hp hM)
      clear hp hM HF6
      go_wp2_with fail
      have R := take_at HF7.out.t HI.out k y HK.out.1 HK.out.2.2.1
      rw [HTK.out] at R
      refine R.mono ?_
      clear R
      rintro e w8 ⟨rfl, hp, hM⟩
      have HF8 := hid (HF7.out.turn_t hp hM)
      clear hp hM HF7 HF
      have hzc : H + 5 < w8.heap.size := HF8.out.t.lt.1
      have HC := hid (fun (w1 : World) (hp : PurseAt w1 b m s) => copy_is hp)
      have HPY := hid (fun (b' m' : Nat) (w1 : World) (hp : PurseAt w1 b' m' s) => pay_at hp HI.out k y HK.out.1 HK.out.2.2.1)
      cases fb
      · obtain ⟨hn0, he0, hsq, hst⟩ := HN.out rfl
        obtain rfl := hn0
        obtain rfl := he0
        obtain rfl := hsq.symm
        obtain rfl := hst.symm
        go_upto_region 17 with fail
        go_cut [124] (fun v wx => v = .bool false ∧ F4 w b m hx H s s s s wx)
        case first =>
          as_aux_lemma =>
            clear HK HI HPC HMC HHH hlx hlp hH hz5 hl100 HFB HIQ HRS HIT HTK HY HN hj hj2 hl hb hm
            have hpay : (decide (k ≤ s.hk) = true ∧ decide (y ≤ s.hb) = true ∧ ∃ s5, s.pay k y = (0, s5)) ∨ (decide (k ≤ s.hk) = true ∧ decide (y ≤ s.hb) = false ∧ ∃ s5, s.pay k y = (10, s5)) ∨ (decide (k ≤ s.hk) = false ∧ ∃ s5, s.pay k y = (10, s5)) := by
              by_cases q1 : k ≤ s.hk
              · by_cases q2 : y ≤ s.hb
                · exact .inl ⟨decide_eq_true q1, decide_eq_true q2, _, if_pos ⟨q1, q2⟩⟩
                · exact .inr (.inl ⟨decide_eq_true q1, decide_eq_false q2, _, if_neg fun h => q2 h.2⟩)
              · exact .inr (.inr ⟨decide_eq_false q1, _, if_neg fun h => q1 h.1⟩)
            rcases hpay with ⟨q1, q2, s5, hpy⟩ | ⟨q1, q2, s5, hpy⟩ | ⟨q1, s5, hpy⟩
            · have HQ := hid (And.intro q1 q2)
              clear q1 q2
              have HP5 := hid hpy
              clear hpy
              refine wp_region_seqC 37 (Turn2 20 23 (fun b1 b2 w1 => F5 w b m hx H s s s s s5 w8.heap.size b1 b2 w1)) (by kernel_rfl) (by kernel_rfl) (by kernel_rfl) (Turn2.start ⟨HF8.out.keep ⟨rfl, rfl, rfl, Nat.le_refl _, fun _ _ => rfl⟩, fun _ => rfl, (fun e => by cases e), hzc⟩) ?_
              dsimp only [List.take]
              iterate 20
                refine SeqC.calm (a' := ?_) (by decide) (by decide) ?_ ?_ ?_
                rotate_left
                ·
                  intro b1 b2 w1 ec1 ec2 ed1 ed2 hw1
                  have HW1 := hid hw1
                  have kh := hw1.f.kh
                  have a0 := cell_of kh 0
                  have a1 := cell_of kh 1
                  clear kh
                  clear hw1 ec1 ec2 ed1 ed2
                  go_wp2_with (fail)
                  refine ⟨?_, HW1.out⟩
                  exact rfl
                · kernel_rfl
              refine SeqC.fst (a' := ?_) (by decide) ?_ ?_ ?_
              rotate_left
              ·
                intro b2 w1 ed1 ed2 hw1
                obtain rfl := ed1 (by kernel_rfl)
                have HW1 := hid hw1
                have HZ := hid (hw1.no rfl)
                clear hw1 ed1 ed2
                go_wp2_with (go_at_call 21; refine (HC.out _ HW1.out.f.p).mono ?_; rintro e w2 ⟨rfl, hc, hzz, hB⟩)
                rw [HZ.out] at hc ⊢
                refine ⟨?_, HW1.out.f.keep hB, (fun e => by cases e), fun _ => hc, HW1.out.lc⟩
                exact rfl
              · kernel_rfl
              iterate 2
                refine SeqC.calm (a' := ?_) (by decide) (by decide) ?_ ?_ ?_
                rotate_left
                ·
                  intro b1 b2 w1 ec1 ec2 ed1 ed2 hw1
                  have HW1 := hid hw1
                  have kh := hw1.f.kh
                  have a0 := cell_of kh 0
                  have a1 := cell_of kh 1
                  clear kh
                  clear hw1 ec1 ec2 ed1 ed2
                  go_wp2_with (fail)
                  refine ⟨?_, HW1.out⟩
                  exact rfl
                · kernel_rfl
              refine SeqC.snd (a' := ?_) (by decide) ?_ ?_ ?_
              rotate_left
              ·
                intro b1 w1 ec1 ec2 hw1
                obtain rfl := ec2 (by kernel_rfl)
                have HW1 := hid hw1
                have R := HPY.out _ _ _ (hw1.yes rfl)
                rw [HP5.out] at R
                have HR := hid R
                clear hw1 ec1 ec2 R
                go_wp2_with (go_at_call 23; refine HR.out.mono ?_; rintro e w2 ⟨rfl, hp, hM⟩)
                have hlc := HW1.out.lc
                refine ⟨?_, HW1.out.f.turn_x hM (by omega) (by omega), (fun e => by cases e), fun _ => hp, HW1.out.lc⟩
                exact rfl
              · kernel_rfl
              iterate 4
                refine SeqC.calm (a' := ?_) (by decide) (by decide) ?_ ?_ ?_
                rotate_left
                ·
                  intro b1 b2 w1 ec1 ec2 ed1 ed2 hw1
                  have HW1 := hid hw1
                  have kh := hw1.f.kh
                  have a0 := cell_of kh 0
                  have a1 := cell_of kh 1
                  clear kh
                  clear hw1 ec1 ec2 ed1 ed2
                  go_wp2_with (fail)
                  refine ⟨?_, HW1.out⟩
                  exact rfl
                · kernel_rfl
              refine SeqC.calm (a' := ?_) (by decide) (by decide) ?_ ?_ ?_
              rotate_left
              ·
                intro b1 b2 w1 ec1 ec2 ed1 ed2 hw1
                have HW1 := hid hw1
                have kh := hw1.f.kh
                have a0 := cell_of kh 0
                have a1 := cell_of kh 1
                clear kh
                have q1 := HQ.out.1
                clear hw1 ec1 ec2 ed1 ed2
                go_wp2_with (fail)
                refine ⟨?_, HW1.out⟩
                exact rfl
              · kernel_rfl
              iterate 4
                refine SeqC.calm (a' := ?_) (by decide) (by decide) ?_ ?_ ?_
                rotate_left
                ·
                  intro b1 b2 w1 ec1 ec2 ed1 ed2 hw1
                  have HW1 := hid hw1
                  have kh := hw1.f.kh
                  have a0 := cell_of kh 0
                  have a1 := cell_of kh 1
                  clear kh
                  clear hw1 ec1 ec2 ed1 ed2
                  go_wp2_with (fail)
                  refine ⟨?_, HW1.out⟩
                  exact rfl
                · kernel_rfl
              refine SeqC.calm (a' := ?_) (by decide) (by decide) ?_ ?_ ?_
              rotate_left
              ·
                intro b1 b2 w1 ec1 ec2 ed1 ed2 hw1
                have HW1 := hid hw1
                have kh := hw1.f.kh
                have a0 := cell_of kh 0
                have a1 := cell_of kh 1
                clear kh
                have q2 := HQ.out.2
                clear hw1 ec1 ec2 ed1 ed2
                go_wp2_with (fail)
                refine ⟨?_, HW1.out⟩
                exact rfl
              · kernel_rfl
              iterate 3
                refine SeqC.calm (a' := ?_) (by decide) (by decide) ?_ ?_ ?_
                rotate_left
                ·
                  intro b1 b2 w1 ec1 ec2 ed1 ed2 hw1
                  have HW1 := hid hw1
                  have kh := hw1.f.kh
                  have a0 := cell_of kh 0
                  have a1 := cell_of kh 1
                  clear kh
                  clear hw1 ec1 ec2 ed1 ed2
                  go_wp2_with (fail)
                  refine ⟨?_, HW1.out⟩
                  exact rfl
                · kernel_rfl
              refine SeqC.nil ?_
              intro D w1 hD hI
              replace hI := hI.done (hD 20 (by omega)) (hD 23 (by omega))
              clear hD
              dsimp only [List.drop]
              go_wp2_with fail
              go_meet
              exact ⟨by first | rfl | simp, hI.f⟩
            · have HQ := hid (And.intro q1 q2)
              clear q1 q2
              have HP5 := hid hpy
              clear hpy
              refine wp_region_seqC 37 (Turn2 20 23 (fun b1 b2 w1 => F5 w b m hx H s s s s s5 w8.heap.size b1 b2 w1)) (by kernel_rfl) (by kernel_rfl) (by kernel_rfl) (Turn2.start ⟨HF8.out.keep ⟨rfl, rfl, rfl, Nat.le_refl _, fun _ _ => rfl⟩, fun _ => rfl, (fun e => by cases e), hzc⟩) ?_
              dsimp only [List.take]
              iterate 20
                refine SeqC.calm (a' := ?_) (by decide) (by decide) ?_ ?_ ?_
                rotate_left
                ·
                  intro b1 b2 w1 ec1 ec2 ed1 ed2 hw1
                  have HW1 := hid hw1
                  have kh := hw1.f.kh
                  have a0 := cell_of kh 0
                  have a1 := cell_of kh 1
                  clear kh
                  clear hw1 ec1 ec2 ed1 ed2
                  go_wp2_with (fail)
                  refine ⟨?_, HW1.out⟩
                  exact rfl
                · kernel_rfl
              refine SeqC.fst (a' := ?_) (by decide) ?_ ?_ ?_
              rotate_left
              ·
                intro b2 w1 ed1 ed2 hw1
                obtain rfl := ed1 (by kernel_rfl)
                have HW1 := hid hw1
                have HZ := hid (hw1.no rfl)
                clear hw1 ed1 ed2
                go_wp2_with (go_at_call 21; refine (HC.out _ HW1.out.f.p).mono ?_; rintro e w2 ⟨rfl, hc, hzz, hB⟩)
                rw [HZ.out] at hc ⊢
                refine ⟨?_, HW1.out.f.keep hB, (fun e => by cases e), fun _ => hc, HW1.out.lc⟩
                exact rfl
              · kernel_rfl
              iterate 2
                refine SeqC.calm (a' := ?_) (by decide) (by decide) ?_ ?_ ?_
                rotate_left
                ·
                  intro b1 b2 w1 ec1 ec2 ed1 ed2 hw1
                  have HW1 := hid hw1
                  have kh := hw1.f.kh
                  have a0 := cell_of kh 0
                  have a1 := cell_of kh 1
                  clear kh
                  clear hw1 ec1 ec2 ed1 ed2
                  go_wp2_with (fail)
                  refine ⟨?_, HW1.out⟩
                  exact rfl
                · kernel_rfl
              refine SeqC.snd (a' := ?_) (by decide) ?_ ?_ ?_
              rotate_left
              ·
                intro b1 w1 ec1 ec2 hw1
                obtain rfl := ec2 (by kernel_rfl)
                have HW1 := hid hw1
                have R := HPY.out _ _ _ (hw1.yes rfl)
                rw [HP5.out] at R
                have HR := hid R
                clear hw1 ec1 ec2 R
                go_wp2_with (go_at_call 23; refine HR.out.mono ?_; rintro e w2 ⟨rfl, hp, hM⟩)
                have hlc := HW1.out.lc
                refine ⟨?_, HW1.out.f.turn_x hM (by omega) (by omega), (fun e => by cases e), fun _ => hp, HW1.out.lc⟩
                exact rfl
              · kernel_rfl
              iterate 4
                refine SeqC.calm (a' := ?_) (by decide) (by decide) ?_ ?_ ?_
                rotate_left
                ·
                  intro b1 b2 w1 ec1 ec2 ed1 ed2 hw1
                  have HW1 := hid hw1
                  have kh := hw1.f.kh
                  have a0 := cell_of kh 0
                  have a1 := cell_of kh 1
                  clear kh
                  clear hw1 ec1 ec2 ed1 ed2
                  go_wp2_with (fail)
                  refine ⟨?_, HW1.out⟩
                  exact rfl
                · kernel_rfl
              refine SeqC.calm (a' := ?_) (by decide) (by decide) ?_ ?_ ?_
              rotate_left
              ·
                intro b1 b2 w1 ec1 ec2 ed1 ed2 hw1
                have HW1 := hid hw1
                have kh := hw1.f.kh
                have a0 := cell_of kh 0
                have a1 := cell_of kh 1
                clear kh
                have q1 := HQ.out.1
                clear hw1 ec1 ec2 ed1 ed2
                go_wp2_with (fail)
                refine ⟨?_, HW1.out⟩
                exact rfl
              · kernel_rfl
              iterate 4
                refine SeqC.calm (a' := ?_) (by decide) (by decide) ?_ ?_ ?_
                rotate_left
                ·
                  intro b1 b2 w1 ec1 ec2 ed1 ed2 hw1
                  have HW1 := hid hw1
                  have kh := hw1.f.kh
                  have a0 := cell_of kh 0
                  have a1 := cell_of kh 1
                  clear kh
                  clear hw1 ec1 ec2 ed1 ed2
                  go_wp2_with (fail)
                  refine ⟨?_, HW1.out⟩
                  exact rfl
                · kernel_rfl
              refine SeqC.calm (a' := ?_) (by decide) (by decide) ?_ ?_ ?_
              rotate_left
              ·
                intro b1 b2 w1 ec1 ec2 ed1 ed2 hw1
                have HW1 := hid hw1
                have kh := hw1.f.kh
                have a0 := cell_of kh 0
                have a1 := cell_of kh 1
                clear kh
                have q2 := HQ.out.2
                clear hw1 ec1 ec2 ed1 ed2
                go_wp2_with (fail)
                refine ⟨?_, HW1.out⟩
                exact rfl
              · kernel_rfl
              iterate 3
                refine SeqC.calm (a' := ?_) (by decide) (by decide) ?_ ?_ ?_
                rotate_left
                ·
                  intro b1 b2 w1 ec1 ec2 ed1 ed2 hw1
                  have HW1 := hid hw1
                  have kh := hw1.f.kh
                  have a0 := cell_of kh 0
                  have a1 := cell_of kh 1
                  clear kh
                  clear hw1 ec1 ec2 ed1 ed2
                  go_wp2_with (fail)
                  refine ⟨?_, HW1.out⟩
                  exact rfl
                · kernel_rfl
              refine SeqC.nil ?_
              intro D w1 hD hI
              replace hI := hI.done (hD 20 (by omega)) (hD 23 (by omega))
              clear hD
              dsimp only [List.drop]
              go_wp2_with fail
              go_meet
              exact ⟨by first | rfl | simp, hI.f⟩
            · have HQ := hid (And.intro q1 trivial)
              clear q1
              have HP5 := hid hpy
              clear hpy
              refine wp_region_seqC 37 (Turn2 20 23 (fun b1 b2 w1 => F5 w b m hx H s s s s s5 w8.heap.size b1 b2 w1)) (by kernel_rfl) (by kernel_rfl) (by kernel_rfl) (Turn2.start ⟨HF8.out.keep ⟨rfl, rfl, rfl, Nat.le_refl _, fun _ _ => rfl⟩, fun _ => rfl, (fun e => by cases e), hzc⟩) ?_
              dsimp only [List.take]
              iterate 20
                refine SeqC.calm (a' := ?_) (by decide) (by decide) ?_ ?_ ?_
                rotate_left
                ·
                  intro b1 b2 w1 ec1 ec2 ed1 ed2 hw1
                  have HW1 := hid hw1
                  have kh := hw1.f.kh
                  have a0 := cell_of kh 0
                  have a1 := cell_of kh 1
                  clear kh
                  clear hw1 ec1 ec2 ed1 ed2
                  go_wp2_with (fail)
                  refine ⟨?_, HW1.out⟩
                  exact rfl
                · kernel_rfl
              refine SeqC.fst (a' := ?_) (by decide) ?_ ?_ ?_
              rotate_left
              ·
                intro b2 w1 ed1 ed2 hw1
                obtain rfl := ed1 (by kernel_rfl)
                have HW1 := hid hw1
                have HZ := hid (hw1.no rfl)
                clear hw1 ed1 ed2
                go_wp2_with (go_at_call 21; refine (HC.out _ HW1.out.f.p).mono ?_; rintro e w2 ⟨rfl, hc, hzz, hB⟩)
                rw [HZ.out] at hc ⊢
                refine ⟨?_, HW1.out.f.keep hB, (fun e => by cases e), fun _ => hc, HW1.out.lc⟩
                exact rfl
              · kernel_rfl
              iterate 2
                refine SeqC.calm (a' := ?_) (by decide) (by decide) ?_ ?_ ?_
                rotate_left
                ·
                  intro b1 b2 w1 ec1 ec2 ed1 ed2 hw1
                  have HW1 := hid hw1
                  have kh := hw1.f.kh
                  have a0 := cell_of kh 0
                  have a1 := cell_of kh 1
                  clear kh
                  clear hw1 ec1 ec2 ed1 ed2
                  go_wp2_with (fail)
                  refine ⟨?_, HW1.out⟩
                  exact rfl
                · kernel_rfl
              refine SeqC.snd (a' := ?_) (by decide) ?_ ?_ ?_
              rotate_left
              ·
                intro b1 w1 ec1 ec2 hw1
                obtain rfl := ec2 (by kernel_rfl)
                have HW1 := hid hw1
                have R := HPY.out _ _ _ (hw1.yes rfl)
                rw [HP5.out] at R
                have HR := hid R
                clear hw1 ec1 ec2 R
                go_wp2_with (go_at_call 23; refine HR.out.mono ?_; rintro e w2 ⟨rfl, hp, hM⟩)
                have hlc := HW1.out.lc
                refine ⟨?_, HW1.out.f.turn_x hM (by omega) (by omega), (fun e => by cases e), fun _ => hp, HW1.out.lc⟩
                exact rfl
              · kernel_rfl
              iterate 4
                refine SeqC.calm (a' := ?_) (by decide) (by decide) ?_ ?_ ?_
                rotate_left
                ·
                  intro b1 b2 w1 ec1 ec2 ed1 ed2 hw1
                  have HW1 := hid hw1
                  have kh := hw1.f.kh
                  have a0 := cell_of kh 0
                  have a1 := cell_of kh 1
                  clear kh
                  clear hw1 ec1 ec2 ed1 ed2
                  go_wp2_with (fail)
                  refine ⟨?_, HW1.out⟩
                  exact rfl
                · kernel_rfl
              refine SeqC.calm (a' := ?_) (by decide) (by decide) ?_ ?_ ?_
              rotate_left
              ·
                intro b1 b2 w1 ec1 ec2 ed1 ed2 hw1
                have HW1 := hid hw1
                have kh := hw1.f.kh
                have a0 := cell_of kh 0
                have a1 := cell_of kh 1
                clear kh
                have q1 := HQ.out.1
                clear hw1 ec1 ec2 ed1 ed2
                go_wp2_with (fail)
                refine ⟨?_, HW1.out⟩
                exact rfl
              · kernel_rfl
              iterate 4
                refine SeqC.calm (a' := ?_) (by decide) (by decide) ?_ ?_ ?_
                rotate_left
                ·
                  intro b1 b2 w1 ec1 ec2 ed1 ed2 hw1
                  have HW1 := hid hw1
                  have kh := hw1.f.kh
                  have a0 := cell_of kh 0
                  have a1 := cell_of kh 1
                  clear kh
                  clear hw1 ec1 ec2 ed1 ed2
                  go_wp2_with (fail)
                  refine ⟨?_, HW1.out⟩
                  exact rfl
                · kernel_rfl
              refine SeqC.calm (a' := ?_) (by decide) (by decide) ?_ ?_ ?_
              rotate_left
              ·
                intro b1 b2 w1 ec1 ec2 ed1 ed2 hw1
                have HW1 := hid hw1
                have kh := hw1.f.kh
                have a0 := cell_of kh 0
                have a1 := cell_of kh 1
                clear kh
                have q2 := HQ.out.2
                clear hw1 ec1 ec2 ed1 ed2
                go_wp2_with (fail)
                refine ⟨?_, HW1.out⟩
                exact rfl
              · kernel_rfl
              iterate 3
                refine SeqC.calm (a' := ?_) (by decide) (by decide) ?_ ?_ ?_
                rotate_left
                ·
                  intro b1 b2 w1 ec1 ec2 ed1 ed2 hw1
                  have HW1 := hid hw1
                  have kh := hw1.f.kh
                  have a0 := cell_of kh 0
                  have a1 := cell_of kh 1
                  clear kh
                  clear hw1 ec1 ec2 ed1 ed2
                  go_wp2_with (fail)
                  refine ⟨?_, HW1.out⟩
                  exact rfl
                · kernel_rfl
              refine SeqC.nil ?_
              intro D w1 hD hI
              replace hI := hI.done (hD 20 (by omega)) (hD 23 (by omega))
              clear hD
              dsimp only [List.drop]
              go_wp2_with fail
              go_meet
              exact ⟨by first | rfl | simp, hI.f⟩
        case rest =>
          as_aux_lemma =>
            obtain ⟨rfl, hf⟩ := hcut
            have HF := hid hf
            clear hf HK HPC HMC HHH hlx hlp hH hz5 hl100 HFB HIQ HRS HIT HTK HY HN hj hj2 hl hb hm HF8 HC HPY hzc
            go_upto_region 20 with fail
            refine wp_region_seq 14 (fun w1 => F4 w b m hx H s s s s w1) (by kernel_rfl) (by kernel_rfl) (by kernel_rfl) (HF.out.keep ⟨rfl, rfl, rfl, Nat.le_refl _, fun _ _ => rfl⟩) ?_
            dsimp only [List.take]
            iterate 14
              refine Seq.cons (a' := ?_) ?_ ?_ ?_
              rotate_left
              ·
                intro w1 hw1
                have HW1 := hid hw1
                have kh := hw1.kh
                have kb := hw1.kb
                have a0 := cell_of kh 0
                have a1 := cell_of kh 1
                have a2 := cell_of kb 0
                have a3 := cell_of kb 1
                clear kh kb
                clear hw1
                go_wp2_with (first | (go_at_call 18; refine (bound_at HW1.out.q HI.out).mono ?_; rintro e w2 ⟨rfl, hX⟩) | (go_at_call 17; refine (has_at HW1.out.t).mono ?_; rintro e w2 ⟨rfl, hX⟩))
                refine ⟨?_, by first | exact HW1.out | exact HW1.out.keep hX⟩
                exact rfl
              · kernel_rfl
            refine SeqI.nil ?_
            intro _ w1 _ hw1
            have HW := hid hw1.mod
            clear hw1
            dsimp only [List.drop]
            go_wp2_with fail
            go_ret
            exact ⟨by simp, mod_end HW.out⟩
      · obtain ⟨rfl, rfl, hfit⟩ := HY.out rfl
        have HFT := hid hfit
        clear hfit
        go_upto_region 17 with fail
        go_cut [124] (fun v wx => v = .bool false ∧ F4 w b m hx H s sq sq st wx)
        case first =>
          as_aux_lemma =>
            clear HFT
            clear HK HI HPC HMC HHH hlx hlp hH hz5 hl100 HFB HIQ HRS HIT HTK HY HN hj hj2 hl hb hm
            have hpay : (decide (k ≤ s.hk) = true ∧ decide (y ≤ s.hb) = true ∧ ∃ s5, s.pay k y = (0, s5)) ∨ (decide (k ≤ s.hk) = true ∧ decide (y ≤ s.hb) = false ∧ ∃ s5, s.pay k y = (10, s5)) ∨ (decide (k ≤ s.hk) = false ∧ ∃ s5, s.pay k y = (10, s5)) := by
              by_cases q1 : k ≤ s.hk
              · by_cases q2 : y ≤ s.hb
                · exact .inl ⟨decide_eq_true q1, decide_eq_true q2, _, if_pos ⟨q1, q2⟩⟩
                · exact .inr (.inl ⟨decide_eq_true q1, decide_eq_false q2, _, if_neg fun h => q2 h.2⟩)
              · exact .inr (.inr ⟨decide_eq_false q1, _, if_neg fun h => q1 h.1⟩)
            rcases hpay with ⟨q1, q2, s5, hpy⟩ | ⟨q1, q2, s5, hpy⟩ | ⟨q1, s5, hpy⟩
            · have HQ := hid (And.intro q1 q2)
              clear q1 q2
              have HP5 := hid hpy
              clear hpy
              refine wp_region_seqC 37 (Turn2 20 23 (fun b1 b2 w1 => F5 w b m hx H s sq sq st s5 w8.heap.size b1 b2 w1)) (by kernel_rfl) (by kernel_rfl) (by kernel_rfl) (Turn2.start ⟨HF8.out.keep ⟨rfl, rfl, rfl, Nat.le_refl _, fun _ _ => rfl⟩, fun _ => rfl, (fun e => by cases e), hzc⟩) ?_
              dsimp only [List.take]
              iterate 20
                refine SeqC.calm (a' := ?_) (by decide) (by decide) ?_ ?_ ?_
                rotate_left
                ·
                  intro b1 b2 w1 ec1 ec2 ed1 ed2 hw1
                  have HW1 := hid hw1
                  have kh := hw1.f.kh
                  have a0 := cell_of kh 0
                  have a1 := cell_of kh 1
                  clear kh
                  clear hw1 ec1 ec2 ed1 ed2
                  go_wp2_with (fail)
                  refine ⟨?_, HW1.out⟩
                  exact rfl
                · kernel_rfl
              refine SeqC.fst (a' := ?_) (by decide) ?_ ?_ ?_
              rotate_left
              ·
                intro b2 w1 ed1 ed2 hw1
                obtain rfl := ed1 (by kernel_rfl)
                have HW1 := hid hw1
                have HZ := hid (hw1.no rfl)
                clear hw1 ed1 ed2
                go_wp2_with (go_at_call 21; refine (HC.out _ HW1.out.f.p).mono ?_; rintro e w2 ⟨rfl, hc, hzz, hB⟩)
                rw [HZ.out] at hc ⊢
                refine ⟨?_, HW1.out.f.keep hB, (fun e => by cases e), fun _ => hc, HW1.out.lc⟩
                exact rfl
              · kernel_rfl
              iterate 2
                refine SeqC.calm (a' := ?_) (by decide) (by decide) ?_ ?_ ?_
                rotate_left
                ·
                  intro b1 b2 w1 ec1 ec2 ed1 ed2 hw1
                  have HW1 := hid hw1
                  have kh := hw1.f.kh
                  have a0 := cell_of kh 0
                  have a1 := cell_of kh 1
                  clear kh
                  clear hw1 ec1 ec2 ed1 ed2
                  go_wp2_with (fail)
                  refine ⟨?_, HW1.out⟩
                  exact rfl
                · kernel_rfl
              refine SeqC.snd (a' := ?_) (by decide) ?_ ?_ ?_
              rotate_left
              ·
                intro b1 w1 ec1 ec2 hw1
                obtain rfl := ec2 (by kernel_rfl)
                have HW1 := hid hw1
                have R := HPY.out _ _ _ (hw1.yes rfl)
                rw [HP5.out] at R
                have HR := hid R
                clear hw1 ec1 ec2 R
                go_wp2_with (go_at_call 23; refine HR.out.mono ?_; rintro e w2 ⟨rfl, hp, hM⟩)
                have hlc := HW1.out.lc
                refine ⟨?_, HW1.out.f.turn_x hM (by omega) (by omega), (fun e => by cases e), fun _ => hp, HW1.out.lc⟩
                exact rfl
              · kernel_rfl
              iterate 4
                refine SeqC.calm (a' := ?_) (by decide) (by decide) ?_ ?_ ?_
                rotate_left
                ·
                  intro b1 b2 w1 ec1 ec2 ed1 ed2 hw1
                  have HW1 := hid hw1
                  have kh := hw1.f.kh
                  have a0 := cell_of kh 0
                  have a1 := cell_of kh 1
                  clear kh
                  clear hw1 ec1 ec2 ed1 ed2
                  go_wp2_with (fail)
                  refine ⟨?_, HW1.out⟩
                  exact rfl
                · kernel_rfl
              refine SeqC.calm (a' := ?_) (by decide) (by decide) ?_ ?_ ?_
              rotate_left
              ·
                intro b1 b2 w1 ec1 ec2 ed1 ed2 hw1
                have HW1 := hid hw1
                have kh := hw1.f.kh
                have a0 := cell_of kh 0
                have a1 := cell_of kh 1
                clear kh
                have q1 := HQ.out.1
                clear hw1 ec1 ec2 ed1 ed2
                go_wp2_with (fail)
                refine ⟨?_, HW1.out⟩
                exact rfl
              · kernel_rfl
              iterate 4
                refine SeqC.calm (a' := ?_) (by decide) (by decide) ?_ ?_ ?_
                rotate_left
                ·
                  intro b1 b2 w1 ec1 ec2 ed1 ed2 hw1
                  have HW1 := hid hw1
                  have kh := hw1.f.kh
                  have a0 := cell_of kh 0
                  have a1 := cell_of kh 1
                  clear kh
                  clear hw1 ec1 ec2 ed1 ed2
                  go_wp2_with (fail)
                  refine ⟨?_, HW1.out⟩
                  exact rfl
                · kernel_rfl
              refine SeqC.calm (a' := ?_) (by decide) (by decide) ?_ ?_ ?_
              rotate_left
              ·
                intro b1 b2 w1 ec1 ec2 ed1 ed2 hw1
                have HW1 := hid hw1
                have kh := hw1.f.kh
                have a0 := cell_of kh 0
                have a1 := cell_of kh 1
                clear kh
                have q2 := HQ.out.2
                clear hw1 ec1 ec2 ed1 ed2
                go_wp2_with (fail)
                refine ⟨?_, HW1.out⟩
                exact rfl
              · kernel_rfl
              iterate 3
                refine SeqC.calm (a' := ?_) (by decide) (by decide) ?_ ?_ ?_
                rotate_left
                ·
                  intro b1 b2 w1 ec1 ec2 ed1 ed2 hw1
                  have HW1 := hid hw1
                  have kh := hw1.f.kh
                  have a0 := cell_of kh 0
                  have a1 := cell_of kh 1
                  clear kh
                  clear hw1 ec1 ec2 ed1 ed2
                  go_wp2_with (fail)
                  refine ⟨?_, HW1.out⟩
                  exact rfl
                · kernel_rfl
              refine SeqC.nil ?_
              intro D w1 hD hI
              replace hI := hI.done (hD 20 (by omega)) (hD 23 (by omega))
              clear hD
              dsimp only [List.drop]
              go_wp2_with fail
              go_meet
              exact ⟨by first | rfl | simp, hI.f⟩
            · have HQ := hid (And.intro q1 q2)
              clear q1 q2
              have HP5 := hid hpy
              clear hpy
              refine wp_region_seqC 37 (Turn2 20 23 (fun b1 b2 w1 => F5 w b m hx H s sq sq st s5 w8.heap.size b1 b2 w1)) (by kernel_rfl) (by kernel_rfl) (by kernel_rfl) (Turn2.start ⟨HF8.out.keep ⟨rfl, rfl, rfl, Nat.le_refl _, fun _ _ => rfl⟩, fun _ => rfl, (fun e => by cases e), hzc⟩) ?_
              dsimp only [List.take]
              iterate 20
                refine SeqC.calm (a' := ?_) (by decide) (by decide) ?_ ?_ ?_
                rotate_left
                ·
                  intro b1 b2 w1 ec1 ec2 ed1 ed2 hw1
                  have HW1 := hid hw1
                  have kh := hw1.f.kh
                  have a0 := cell_of kh 0
                  have a1 := cell_of kh 1
                  clear kh
                  clear hw1 ec1 ec2 ed1 ed2
                  go_wp2_with (fail)
                  refine ⟨?_, HW1.out⟩
                  exact rfl
                · kernel_rfl
              refine SeqC.fst (a' := ?_) (by decide) ?_ ?_ ?_
              rotate_left
              ·
                intro b2 w1 ed1 ed2 hw1
                obtain rfl := ed1 (by kernel_rfl)
                have HW1 := hid hw1
                have HZ := hid (hw1.no rfl)
                clear hw1 ed1 ed2
                go_wp2_with (go_at_call 21; refine (HC.out _ HW1.out.f.p).mono ?_; rintro e w2 ⟨rfl, hc, hzz, hB⟩)
                rw [HZ.out] at hc ⊢
                refine ⟨?_, HW1.out.f.keep hB, (fun e => by cases e), fun _ => hc, HW1.out.lc⟩
                exact rfl
              · kernel_rfl
              iterate 2
                refine SeqC.calm (a' := ?_) (by decide) (by decide) ?_ ?_ ?_
                rotate_left
                ·
                  intro b1 b2 w1 ec1 ec2 ed1 ed2 hw1
                  have HW1 := hid hw1
                  have kh := hw1.f.kh
                  have a0 := cell_of kh 0
                  have a1 := cell_of kh 1
                  clear kh
                  clear hw1 ec1 ec2 ed1 ed2
                  go_wp2_with (fail)
                  refine ⟨?_, HW1.out⟩
                  exact rfl
                · kernel_rfl
              refine SeqC.snd (a' := ?_) (by decide) ?_ ?_ ?_
              rotate_left
              ·
                intro b1 w1 ec1 ec2 hw1
                obtain rfl := ec2 (by kernel_rfl)
                have HW1 := hid hw1
                have R := HPY.out _ _ _ (hw1.yes rfl)
                rw [HP5.out] at R
                have HR := hid R
                clear hw1 ec1 ec2 R
                go_wp2_with (go_at_call 23; refine HR.out.mono ?_; rintro e w2 ⟨rfl, hp, hM⟩)
                have hlc := HW1.out.lc
                refine ⟨?_, HW1.out.f.turn_x hM (by omega) (by omega), (fun e => by cases e), fun _ => hp, HW1.out.lc⟩
                exact rfl
              · kernel_rfl
              iterate 4
                refine SeqC.calm (a' := ?_) (by decide) (by decide) ?_ ?_ ?_
                rotate_left
                ·
                  intro b1 b2 w1 ec1 ec2 ed1 ed2 hw1
                  have HW1 := hid hw1
                  have kh := hw1.f.kh
                  have a0 := cell_of kh 0
                  have a1 := cell_of kh 1
                  clear kh
                  clear hw1 ec1 ec2 ed1 ed2
                  go_wp2_with (fail)
                  refine ⟨?_, HW1.out⟩
                  exact rfl
                · kernel_rfl
              refine SeqC.calm (a' := ?_) (by decide) (by decide) ?_ ?_ ?_
              rotate_left
              ·
                intro b1 b2 w1 ec1 ec2 ed1 ed2 hw1
                have HW1 := hid hw1
                have kh := hw1.f.kh
                have a0 := cell_of kh 0
                have a1 := cell_of kh 1
                clear kh
                have q1 := HQ.out.1
                clear hw1 ec1 ec2 ed1 ed2
                go_wp2_with (fail)
                refine ⟨?_, HW1.out⟩
                exact rfl
              · kernel_rfl
              iterate 4
                refine SeqC.calm (a' := ?_) (by decide) (by decide) ?_ ?_ ?_
                rotate_left
                ·
                  intro b1 b2 w1 ec1 ec2 ed1 ed2 hw1
                  have HW1 := hid hw1
                  have kh := hw1.f.kh
                  have a0 := cell_of kh 0
                  have a1 := cell_of kh 1
                  clear kh
                  clear hw1 ec1 ec2 ed1 ed2
                  go_wp2_with (fail)
                  refine ⟨?_, HW1.out⟩
                  exact rfl
                · kernel_rfl
              refine SeqC.calm (a' := ?_) (by decide) (by decide) ?_ ?_ ?_
              rotate_left
              ·
                intro b1 b2 w1 ec1 ec2 ed1 ed2 hw1
                have HW1 := hid hw1
                have kh := hw1.f.kh
                have a0 := cell_of kh 0
                have a1 := cell_of kh 1
                clear kh
                have q2 := HQ.out.2
                clear hw1 ec1 ec2 ed1 ed2
                go_wp2_with (fail)
                refine ⟨?_, HW1.out⟩
                exact rfl
              · kernel_rfl
              iterate 3
                refine SeqC.calm (a' := ?_) (by decide) (by decide) ?_ ?_ ?_
                rotate_left
                ·
                  intro b1 b2 w1 ec1 ec2 ed1 ed2 hw1
                  have HW1 := hid hw1
                  have kh := hw1.f.kh
                  have a0 := cell_of kh 0
                  have a1 := cell_of kh 1
                  clear kh
                  clear hw1 ec1 ec2 ed1 ed2
                  go_wp2_with (fail)
                  refine ⟨?_, HW1.out⟩
                  exact rfl
                · kernel_rfl
              refine SeqC.nil ?_
              intro D w1 hD hI
              replace hI := hI.done (hD 20 (by omega)) (hD 23 (by omega))
              clear hD
              dsimp only [List.drop]
              go_wp2_with fail
              go_meet
              exact ⟨by first | rfl | simp, hI.f⟩
            · have HQ := hid (And.intro q1 trivial)
              clear q1
              have HP5 := hid hpy
              clear hpy
              refine wp_region_seqC 37 (Turn2 20 23 (fun b1 b2 w1 => F5 w b m hx H s sq sq st s5 w8.heap.size b1 b2 w1)) (by kernel_rfl) (by kernel_rfl) (by kernel_rfl) (Turn2.start ⟨HF8.out.keep ⟨rfl, rfl, rfl, Nat.le_refl _, fun _ _ => rfl⟩, fun _ => rfl, (fun e => by cases e), hzc⟩) ?_
              dsimp only [List.take]
              iterate 20
                refine SeqC.calm (a' := ?_) (by decide) (by decide) ?_ ?_ ?_
                rotate_left
                ·
                  intro b1 b2 w1 ec1 ec2 ed1 ed2 hw1
                  have HW1 := hid hw1
                  have kh := hw1.f.kh
                  have a0 := cell_of kh 0
                  have a1 := cell_of kh 1
                  clear kh
                  clear hw1 ec1 ec2 ed1 ed2
                  go_wp2_with (fail)
                  refine ⟨?_, HW1.out⟩
                  exact rfl
                · kernel_rfl
              refine SeqC.fst (a' := ?_) (by decide) ?_ ?_ ?_
              rotate_left
              ·
                intro b2 w1 ed1 ed2 hw1
                obtain rfl := ed1 (by kernel_rfl)
                have HW1 := hid hw1
                have HZ := hid (hw1.no rfl)
                clear hw1 ed1 ed2
                go_wp2_with (go_at_call 21; refine (HC.out _ HW1.out.f.p).mono ?_; rintro e w2 ⟨rfl, hc, hzz, hB⟩)
                rw [HZ.out] at hc ⊢
                refine ⟨?_, HW1.out.f.keep hB, (fun e => by cases e), fun _ => hc, HW1.out.lc⟩
                exact rfl
              · kernel_rfl
              iterate 2
                refine SeqC.calm (a' := ?_) (by decide) (by decide) ?_ ?_ ?_
                rotate_left
                ·
                  intro b1 b2 w1 ec1 ec2 ed1 ed2 hw1
                  have HW1 := hid hw1
                  have kh := hw1.f.kh
                  have a0 := cell_of kh 0
                  have a1 := cell_of kh 1
                  clear kh
                  clear hw1 ec1 ec2 ed1 ed2
                  go_wp2_with (fail)
                  refine ⟨?_, HW1.out⟩
                  exact rfl
                · kernel_rfl
              refine SeqC.snd (a' := ?_) (by decide) ?_ ?_ ?_
              rotate_left
              ·
                intro b1 w1 ec1 ec2 hw1
                obtain rfl := ec2 (by kernel_rfl)
                have HW1 := hid hw1
                have R := HPY.out _ _ _ (hw1.yes rfl)
                rw [HP5.out] at R
                have HR := hid R
                clear hw1 ec1 ec2 R
                go_wp2_with (go_at_call 23; refine HR.out.mono ?_; rintro e w2 ⟨rfl, hp, hM⟩)
                have hlc := HW1.out.lc
                refine ⟨?_, HW1.out.f.turn_x hM (by omega) (by omega), (fun e => by cases e), fun _ => hp, HW1.out.lc⟩
                exact rfl
              · kernel_rfl
              iterate 4
                refine SeqC.calm (a' := ?_) (by decide) (by decide) ?_ ?_ ?_
                rotate_left
                ·
                  intro b1 b2 w1 ec1 ec2 ed1 ed2 hw1
                  have HW1 := hid hw1
                  have kh := hw1.f.kh
                  have a0 := cell_of kh 0
                  have a1 := cell_of kh 1
                  clear kh
                  clear hw1 ec1 ec2 ed1 ed2
                  go_wp2_with (fail)
                  refine ⟨?_, HW1.out⟩
                  exact rfl
                · kernel_rfl
              refine SeqC.calm (a' := ?_) (by decide) (by decide) ?_ ?_ ?_
              rotate_left
              ·
                intro b1 b2 w1 ec1 ec2 ed1 ed2 hw1
                have HW1 := hid hw1
                have kh := hw1.f.kh
                have a0 := cell_of kh 0
                have a1 := cell_of kh 1
                clear kh
                have q1 := HQ.out.1
                clear hw1 ec1 ec2 ed1 ed2
                go_wp2_with (fail)
                refine ⟨?_, HW1.out⟩
                exact rfl
              · kernel_rfl
              iterate 4
                refine SeqC.calm (a' := ?_) (by decide) (by decide) ?_ ?_ ?_
                rotate_left
                ·
                  intro b1 b2 w1 ec1 ec2 ed1 ed2 hw1
                  have HW1 := hid hw1
                  have kh := hw1.f.kh
                  have a0 := cell_of kh 0
                  have a1 := cell_of kh 1
                  clear kh
                  clear hw1 ec1 ec2 ed1 ed2
                  go_wp2_with (fail)
                  refine ⟨?_, HW1.out⟩
                  exact rfl
                · kernel_rfl
              refine SeqC.calm (a' := ?_) (by decide) (by decide) ?_ ?_ ?_
              rotate_left
              ·
                intro b1 b2 w1 ec1 ec2 ed1 ed2 hw1
                have HW1 := hid hw1
                have kh := hw1.f.kh
                have a0 := cell_of kh 0
                have a1 := cell_of kh 1
                clear kh
                have q2 := HQ.out.2
                clear hw1 ec1 ec2 ed1 ed2
                go_wp2_with (fail)
                refine ⟨?_, HW1.out⟩
                exact rfl
              · kernel_rfl
              iterate 3
                refine SeqC.calm (a' := ?_) (by decide) (by decide) ?_ ?_ ?_
                rotate_left
                ·
                  intro b1 b2 w1 ec1 ec2 ed1 ed2 hw1
                  have HW1 := hid hw1
                  have kh := hw1.f.kh
                  have a0 := cell_of kh 0
                  have a1 := cell_of kh 1
                  clear kh
                  clear hw1 ec1 ec2 ed1 ed2
                  go_wp2_with (fail)
                  refine ⟨?_, HW1.out⟩
                  exact rfl
                · kernel_rfl
              refine SeqC.nil ?_
              intro D w1 hD hI
              replace hI := hI.done (hD 20 (by omega)) (hD 23 (by omega))
              clear hD
              dsimp only [List.drop]
              go_wp2_with fail
              go_meet
              exact ⟨by first | rfl | simp, hI.f⟩
        case rest =>
          as_aux_lemma =>
            obtain ⟨rfl, hf⟩ := hcut
            have hfit := HFT.out
            obtain ⟨hw1k, hw1b⟩ := Fit.wraps HI.out HK.out.1 HK.out.2.2.1 hfit
            obtain rfl : Fit.rs s k y = sq := by
              have := HRS.out
              rw [Fit.res_rs hfit] at this
              simpa using this
            obtain rfl : Fit.tk s k y = st := by
              have := HTK.out
              rw [Fit.take_tk hfit] at this
              simpa using this
            have hlen : (s.l.length : Int) ≤ 100 := by have := Fit.open_le HI.out; omega
            have HF := hid hf
            have HWR := hid (And.intro hw1k hw1b)
            have HLN := hid (show IntKind.i64.wrap ((s.l.length : Int) + 1) = (s.l.length : Int) + 1 from IntWalk.i64_in _ (by omega))
            have ir := HIQ.out.ref (s.last + 1)
            rw [Fit.ref_rs HI.out] at ir
            have ic := HIQ.out.com (s.last + 1)
            rw [Fit.com_rs HI.out] at ic
            have HQ1 : Hid (∀ (w1 : World) (hp : PurseAt w1 (H + 1) H (Fit.rs s k y)), Calls Try.prog 17 #[.pointer (some ⟨H + 1, 0, none⟩)] w1 fun e w' => e = .returned (.agg #[.int .u64 s.hk, .int .u64 s.hb]) ∧ Below w1.heap.size w1 w') := hid fun w1 hp => by
              have := has_at hp
              exact this
            have HQ2 : Hid (∀ (w1 : World) (hp : PurseAt w1 (H + 1) H (Fit.rs s k y)), Calls Try.prog 18 #[.pointer (some ⟨H + 1, 0, none⟩)] w1 fun e w' => e = .returned (.agg #[.int .u64 (s.hk + s.kk + k), .int .u64 (s.hb + s.kb + y)]) ∧ Below w1.heap.size w1 w') := hid fun w1 hp => by
              have := bound_at hp HIQ.out
              unfold Fit.rs at this
              simpa only [Int.add_assoc] using this
            have HQ3 : Hid (∀ (w1 : World) (hp : PurseAt w1 (H + 1) H (Fit.rs s k y)), Calls Try.prog 19 #[.pointer (some ⟨H + 1, 0, none⟩)] w1 fun e w' => e = .returned (.int .i64 ((s.l.length : Int) + 1)) ∧ w1 = w') := hid fun w1 hp => by
              have := open_at hp
              unfold Fit.rs at this
              simpa using this
            have HQ4 : Hid (∀ (w1 : World) (hp : PurseAt w1 (H + 1) H (Fit.rs s k y)), Calls Try.prog 14 #[.pointer (some ⟨H + 1, 0, none⟩), .int .i64 (s.last + 1)] w1 fun e w' => e = .returned (.int .i64 0) ∧ PurseAt w' (H + 1) H (Fit.rf s) ∧ Mod (Own (H + 1) H) w1 w') := hid fun w1 hp => by
              have := refund_at hp HIQ.out (s.last + 1)
              rwa [Fit.ref_rs HI.out] at this
            have HR4 : Hid (∀ (w1 : World) (hp : PurseAt w1 (H + 3) (H + 2) (Fit.rs s k y)), Calls Try.prog 13 #[.pointer (some ⟨H + 3, 0, none⟩), .int .i64 (s.last + 1)] w1 fun e w' => e = .returned (.int .i64 0) ∧ PurseAt w' (H + 3) (H + 2) (Fit.rc s k y) ∧ Mod (Own (H + 3) (H + 2)) w1 w') := hid fun w1 hp => by
              have := commit_at hp HIQ.out (s.last + 1)
              rwa [Fit.com_rs HI.out] at this
            have HIR := hid ir
            have HIC := hid ic
            clear hf hfit hw1k hw1b hlen ir ic HPC HMC HHH hlx hlp hH hz5 hl100 HFB HIQ HRS HTK HY HN hj hj2 hl hb hm HF8 HC HPY hzc
            go_upto_region 21 with fail
            refine wp_region_seqC 43 (Turn2 34 40 (fun b1 b2 w1 => F4 w b m hx H s (cond b1 (Fit.rf s) (Fit.rs s k y)) (cond b2 (Fit.rc s k y) (Fit.rs s k y)) (Fit.tk s k y) w1)) (by kernel_rfl) (by kernel_rfl) (by kernel_rfl) (Turn2.start (HF.out.keep ⟨rfl, rfl, rfl, Nat.le_refl _, fun _ _ => rfl⟩)) ?_
            dsimp only [List.take]
            iterate 34
              refine SeqC.calm (a' := ?_) (by decide) (by decide) ?_ ?_ ?_
              rotate_left
              ·
                intro b1 b2 w1 ec1 ec2 ed1 ed2 hw1
                obtain rfl := ec1 (by kernel_rfl)
                have HW1 := hid hw1
                have kh := hw1.kh
                have kb := hw1.kb
                have a0 := cell_of kh 0
                have a1 := cell_of kh 1
                have a2 := cell_of kb 0
                have a3 := cell_of kb 1
                clear kh kb
                have hwk := HWR.out.1
                have hwb := HWR.out.2
                have hln := HLN.out
                clear hw1 ec1 ec2 ed1 ed2
                go_wp2_with (first | (go_at_call 17; refine (HQ1.out _ HW1.out.q).mono ?_; rintro e w2 ⟨rfl, hX⟩) | (go_at_call 18; refine (HQ2.out _ HW1.out.q).mono ?_; rintro e w2 ⟨rfl, hX⟩) | (go_at_call 19; refine (HQ3.out _ HW1.out.q).mono ?_; rintro e w2 ⟨rfl, rfl⟩))
                try (simp only [fld0, fld1]; go_wp2_with fail)
                refine ⟨?_, by first | exact HW1.out | exact HW1.out.keep hX⟩
                exact rfl
              · kernel_rfl
            refine SeqC.fst (a' := ?_) (by decide) ?_ ?_ ?_
            rotate_left
            ·
              intro b2 w1 ed1 ed2 hw1
              have HW1 := hid hw1
              clear hw1 ed1 ed2
              go_wp2_with (go_at_call 14; refine (HQ4.out _ HW1.out.q).mono ?_; rintro e w2 ⟨rfl, hp, hM⟩)
              refine ⟨?_, HW1.out.turn_q hp hM⟩
              exact rfl
            · kernel_rfl
            iterate 5
              refine SeqC.calm (a' := ?_) (by decide) (by decide) ?_ ?_ ?_
              rotate_left
              ·
                intro b1 b2 w1 ec1 ec2 ed1 ed2 hw1
                have HW1 := hid hw1
                skip
                clear hw1 ec1 ec2 ed1 ed2
                go_wp2_with (fail)
                refine ⟨?_, HW1.out⟩
                exact rfl
              · kernel_rfl
            refine SeqC.snd (a' := ?_) (by decide) ?_ ?_ ?_
            rotate_left
            ·
              intro b1 w1 ed1 ed2 hw1
              have HW1 := hid hw1
              clear hw1 ed1 ed2
              go_wp2_with (go_at_call 13; refine (HR4.out _ HW1.out.r).mono ?_; rintro e w2 ⟨rfl, hp, hM⟩)
              refine ⟨?_, HW1.out.turn_r hp hM⟩
              exact rfl
            · kernel_rfl
            iterate 2
              refine SeqC.calm (a' := ?_) (by decide) (by decide) ?_ ?_ ?_
              rotate_left
              ·
                intro b1 b2 w1 ec1 ec2 ed1 ed2 hw1
                have HW1 := hid hw1
                skip
                clear hw1 ec1 ec2 ed1 ed2
                go_wp2_with (fail)
                refine ⟨?_, HW1.out⟩
                exact rfl
              · kernel_rfl
            refine SeqC.nil ?_
            intro D w1 hD hI
            have HF2 : Hid (F4 w b m hx H s (Fit.rf s) (Fit.rc s k y) (Fit.tk s k y) w1) := hid (hI.done (hD 34 (by omega)) (hD 40 (by omega)))
            clear hD hI HF HQ1 HQ2 HQ3 HQ4 HR4 HLN HWR
            dsimp only [List.drop]
            have HA1 : Hid (∀ (w1 : World) (hp : PurseAt w1 (H + 1) (H) (Fit.rf s)), Calls Try.prog 17 #[.pointer (some ⟨H + 1, 0, none⟩)] w1 fun e w' => e = .returned (.agg #[.int .u64 s.hk, .int .u64 s.hb]) ∧ Below w1.heap.size w1 w') := hid fun w1 hp => by
              have := has_at hp
              exact this
            have HA2 : Hid (∀ (w1 : World) (hp : PurseAt w1 (H + 1) (H) (Fit.rf s)), Calls Try.prog 18 #[.pointer (some ⟨H + 1, 0, none⟩)] w1 fun e w' => e = .returned (.agg #[.int .u64 (s.hk + s.kk), .int .u64 (s.hb + s.kb)]) ∧ Below w1.heap.size w1 w') := hid fun w1 hp => by
              have := bound_at hp HIR.out
              exact this
            have HA3 : Hid (∀ (w1 : World) (hp : PurseAt w1 (H + 1) (H) (Fit.rf s)), Calls Try.prog 19 #[.pointer (some ⟨H + 1, 0, none⟩)] w1 fun e w' => e = .returned (.int .i64 s.l.length) ∧ w1 = w') := hid fun w1 hp => by
              have := open_at hp
              exact this
            have HB1 : Hid (∀ (w1 : World) (hp : PurseAt w1 (H + 3) (H + 2) (Fit.rc s k y)), Calls Try.prog 17 #[.pointer (some ⟨H + 3, 0, none⟩)] w1 fun e w' => e = .returned (.agg #[.int .u64 (s.hk + k), .int .u64 (s.hb + y)]) ∧ Below w1.heap.size w1 w') := hid fun w1 hp => by
              have := has_at hp
              exact this
            have HB2 : Hid (∀ (w1 : World) (hp : PurseAt w1 (H + 3) (H + 2) (Fit.rc s k y)), Calls Try.prog 18 #[.pointer (some ⟨H + 3, 0, none⟩)] w1 fun e w' => e = .returned (.agg #[.int .u64 (s.hk + k + s.kk), .int .u64 (s.hb + y + s.kb)]) ∧ Below w1.heap.size w1 w') := hid fun w1 hp => by
              have := bound_at hp HIC.out
              exact this
            have HB3 : Hid (∀ (w1 : World) (hp : PurseAt w1 (H + 3) (H + 2) (Fit.rc s k y)), Calls Try.prog 19 #[.pointer (some ⟨H + 3, 0, none⟩)] w1 fun e w' => e = .returned (.int .i64 s.l.length) ∧ w1 = w') := hid fun w1 hp => by
              have := open_at hp
              exact this
            have HC1 : Hid (∀ (w1 : World) (hp : PurseAt w1 (H + 5) (H + 4) (Fit.tk s k y)), Calls Try.prog 17 #[.pointer (some ⟨H + 5, 0, none⟩)] w1 fun e w' => e = .returned (.agg #[.int .u64 (s.hk + k), .int .u64 (s.hb + y)]) ∧ Below w1.heap.size w1 w') := hid fun w1 hp => by
              have := has_at hp
              exact this
            have HC2 : Hid (∀ (w1 : World) (hp : PurseAt w1 (H + 5) (H + 4) (Fit.tk s k y)), Calls Try.prog 18 #[.pointer (some ⟨H + 5, 0, none⟩)] w1 fun e w' => e = .returned (.agg #[.int .u64 (s.hk + k + s.kk), .int .u64 (s.hb + y + s.kb)]) ∧ Below w1.heap.size w1 w') := hid fun w1 hp => by
              have := bound_at hp HIT.out
              exact this
            have HD1 : Hid (∀ (w1 : World) (hp : PurseAt w1 (H + 5) (H + 4) (s)), Calls Try.prog 17 #[.pointer (some ⟨H + 5, 0, none⟩)] w1 fun e w' => e = .returned (.agg #[.int .u64 s.hk, .int .u64 s.hb]) ∧ Below w1.heap.size w1 w') := hid fun w1 hp => by
              have := has_at hp
              exact this
            have HD2 : Hid (∀ (w1 : World) (hp : PurseAt w1 (H + 5) (H + 4) (s)), Calls Try.prog 18 #[.pointer (some ⟨H + 5, 0, none⟩)] w1 fun e w' => e = .returned (.agg #[.int .u64 (s.hk + s.kk), .int .u64 (s.hb + s.kb)]) ∧ Below w1.heap.size w1 w') := hid fun w1 hp => by
              have := bound_at hp HI.out
              exact this
            have HD3 : Hid (∀ (w1 : World) (hp : PurseAt w1 (b) (m) (s)), Calls Try.prog 18 #[.pointer (some ⟨b, 0, none⟩)] w1 fun e w' => e = .returned (.agg #[.int .u64 (s.hk + s.kk), .int .u64 (s.hb + s.kb)]) ∧ Below w1.heap.size w1 w') := hid fun w1 hp => by
              have := bound_at hp HI.out
              exact this
            have HC4 : Hid (∀ (w1 : World) (hp : PurseAt w1 (H + 5) (H + 4) (Fit.tk s k y)), Calls Try.prog 23 #[.pointer (some ⟨H + 5, 0, none⟩), .int .u64 k, .int .u64 y] w1 fun e w' => e = .returned (.int .i64 0) ∧ PurseAt w' (H + 5) (H + 4) s ∧ Mod (Own (H + 5) (H + 4)) w1 w') := hid fun w1 hp => by
              have := pay_at hp HIT.out k y HK.out.1 HK.out.2.2.1
              rwa [Fit.pay_tk HI.out] at this
            clear HK HI HIR HIC HIT HFT
            go_upto_region 23 with fail
            refine wp_region_seqC 61 (Turn2 40 61 (fun b1 _ w1 => F4 w b m hx H s (Fit.rf s) (Fit.rc s k y) (cond b1 s (Fit.tk s k y)) w1)) (by kernel_rfl) (by kernel_rfl) (by kernel_rfl) (Turn2.start (HF2.out.keep ⟨rfl, rfl, rfl, Nat.le_refl _, fun _ _ => rfl⟩)) ?_
            dsimp only [List.take]
            iterate 6
              refine SeqC.calm (a' := ?_) (by decide) (by decide) ?_ ?_ ?_
              rotate_left
              ·
                intro b1 b2 w1 ec1 ec2 ed1 ed2 hw1
                obtain rfl := ec1 (by kernel_rfl)
                have HW1 := hid hw1
                have kh := hw1.kh
                have kb := hw1.kb
                have a0 := cell_of kh 0
                have a1 := cell_of kh 1
                have a2 := cell_of kb 0
                have a3 := cell_of kb 1
                clear kh kb
                clear hw1 ec1 ec2 ed1 ed2
                go_wp2_with (first | (go_at_call 17; refine (HA1.out _ HW1.out.q).mono ?_; rintro e w2 ⟨rfl, hX⟩))
                refine ⟨?_, by first | exact HW1.out | exact HW1.out.keep hX⟩
                exact rfl
              · kernel_rfl
            iterate 6
              refine SeqC.calm (a' := ?_) (by decide) (by decide) ?_ ?_ ?_
              rotate_left
              ·
                intro b1 b2 w1 ec1 ec2 ed1 ed2 hw1
                obtain rfl := ec1 (by kernel_rfl)
                have HW1 := hid hw1
                have kh := hw1.kh
                have kb := hw1.kb
                have a0 := cell_of kh 0
                have a1 := cell_of kh 1
                have a2 := cell_of kb 0
                have a3 := cell_of kb 1
                clear kh kb
                clear hw1 ec1 ec2 ed1 ed2
                go_wp2_with (first | (go_at_call 18; refine (HA2.out _ HW1.out.q).mono ?_; rintro e w2 ⟨rfl, hX⟩))
                refine ⟨?_, by first | exact HW1.out | exact HW1.out.keep hX⟩
                exact rfl
              · kernel_rfl
            iterate 6
              refine SeqC.calm (a' := ?_) (by decide) (by decide) ?_ ?_ ?_
              rotate_left
              ·
                intro b1 b2 w1 ec1 ec2 ed1 ed2 hw1
                obtain rfl := ec1 (by kernel_rfl)
                have HW1 := hid hw1
                have kh := hw1.kh
                have kb := hw1.kb
                have a0 := cell_of kh 0
                have a1 := cell_of kh 1
                have a2 := cell_of kb 0
                have a3 := cell_of kb 1
                clear kh kb
                clear hw1 ec1 ec2 ed1 ed2
                go_wp2_with (first | (go_at_call 19; refine (HA3.out _ HW1.out.q).mono ?_; rintro e w2 ⟨rfl, rfl⟩))
                refine ⟨?_, by first | exact HW1.out | exact HW1.out.keep hX⟩
                exact rfl
              · kernel_rfl
            iterate 2
              refine SeqC.calm (a' := ?_) (by decide) (by decide) ?_ ?_ ?_
              rotate_left
              ·
                intro b1 b2 w1 ec1 ec2 ed1 ed2 hw1
                obtain rfl := ec1 (by kernel_rfl)
                have HW1 := hid hw1
                have kh := hw1.kh
                have kb := hw1.kb
                have a0 := cell_of kh 0
                have a1 := cell_of kh 1
                have a2 := cell_of kb 0
                have a3 := cell_of kb 1
                clear kh kb
                clear hw1 ec1 ec2 ed1 ed2
                go_wp2_with (first | (go_at_call 17; refine (HB1.out _ HW1.out.r).mono ?_; rintro e w2 ⟨rfl, hX⟩))
                refine ⟨?_, by first | exact HW1.out | exact HW1.out.keep hX⟩
                exact rfl
              · kernel_rfl
            iterate 5
              refine SeqC.calm (a' := ?_) (by decide) (by decide) ?_ ?_ ?_
              rotate_left
              ·
                intro b1 b2 w1 ec1 ec2 ed1 ed2 hw1
                obtain rfl := ec1 (by kernel_rfl)
                have HW1 := hid hw1
                have kh := hw1.kh
                have kb := hw1.kb
                have a0 := cell_of kh 0
                have a1 := cell_of kh 1
                have a2 := cell_of kb 0
                have a3 := cell_of kb 1
                clear kh kb
                clear hw1 ec1 ec2 ed1 ed2
                go_wp2_with (first | (go_at_call 17; refine (HC1.out _ HW1.out.t).mono ?_; rintro e w2 ⟨rfl, hX⟩))
                refine ⟨?_, by first | exact HW1.out | exact HW1.out.keep hX⟩
                exact rfl
              · kernel_rfl
            iterate 2
              refine SeqC.calm (a' := ?_) (by decide) (by decide) ?_ ?_ ?_
              rotate_left
              ·
                intro b1 b2 w1 ec1 ec2 ed1 ed2 hw1
                obtain rfl := ec1 (by kernel_rfl)
                have HW1 := hid hw1
                have kh := hw1.kh
                have kb := hw1.kb
                have a0 := cell_of kh 0
                have a1 := cell_of kh 1
                have a2 := cell_of kb 0
                have a3 := cell_of kb 1
                clear kh kb
                clear hw1 ec1 ec2 ed1 ed2
                go_wp2_with (first | (go_at_call 18; refine (HB2.out _ HW1.out.r).mono ?_; rintro e w2 ⟨rfl, hX⟩))
                refine ⟨?_, by first | exact HW1.out | exact HW1.out.keep hX⟩
                exact rfl
              · kernel_rfl
            iterate 5
              refine SeqC.calm (a' := ?_) (by decide) (by decide) ?_ ?_ ?_
              rotate_left
              ·
                intro b1 b2 w1 ec1 ec2 ed1 ed2 hw1
                obtain rfl := ec1 (by kernel_rfl)
                have HW1 := hid hw1
                have kh := hw1.kh
                have kb := hw1.kb
                have a0 := cell_of kh 0
                have a1 := cell_of kh 1
                have a2 := cell_of kb 0
                have a3 := cell_of kb 1
                clear kh kb
                clear hw1 ec1 ec2 ed1 ed2
                go_wp2_with (first | (go_at_call 18; refine (HC2.out _ HW1.out.t).mono ?_; rintro e w2 ⟨rfl, hX⟩))
                refine ⟨?_, by first | exact HW1.out | exact HW1.out.keep hX⟩
                exact rfl
              · kernel_rfl
            iterate 8
              refine SeqC.calm (a' := ?_) (by decide) (by decide) ?_ ?_ ?_
              rotate_left
              ·
                intro b1 b2 w1 ec1 ec2 ed1 ed2 hw1
                obtain rfl := ec1 (by kernel_rfl)
                have HW1 := hid hw1
                have kh := hw1.kh
                have kb := hw1.kb
                have a0 := cell_of kh 0
                have a1 := cell_of kh 1
                have a2 := cell_of kb 0
                have a3 := cell_of kb 1
                clear kh kb
                clear hw1 ec1 ec2 ed1 ed2
                go_wp2_with (first | (go_at_call 19; refine (HB3.out _ HW1.out.r).mono ?_; rintro e w2 ⟨rfl, rfl⟩))
                refine ⟨?_, by first | exact HW1.out | exact HW1.out.keep hX⟩
                exact rfl
              · kernel_rfl
            refine SeqC.fst (a' := ?_) (by decide) ?_ ?_ ?_
            rotate_left
            ·
              intro b2 w1 ed1 ed2 hw1
              have HW1 := hid hw1
              clear hw1 ed1 ed2
              go_wp2_with (go_at_call 23; refine (HC4.out _ HW1.out.t).mono ?_; rintro e w2 ⟨rfl, hp, hM⟩)
              refine ⟨?_, HW1.out.turn_t hp hM⟩
              exact rfl
            · kernel_rfl
            iterate 10
              refine SeqC.calm (a' := ?_) (by decide) (by decide) ?_ ?_ ?_
              rotate_left
              ·
                intro b1 b2 w1 ec1 ec2 ed1 ed2 hw1
                try obtain rfl := ec2 (by kernel_rfl)
                have HW1 := hid hw1
                have kh := hw1.kh
                have kb := hw1.kb
                have a0 := cell_of kh 0
                have a1 := cell_of kh 1
                have a2 := cell_of kb 0
                have a3 := cell_of kb 1
                clear kh kb
                clear hw1 ec1 ec2 ed1 ed2
                go_wp2_with (first | (go_at_call 17; refine (HD1.out _ HW1.out.t).mono ?_; rintro e w2 ⟨rfl, hX⟩))
                refine ⟨?_, by first | exact HW1.out | exact HW1.out.keep hX⟩
                exact rfl
              · kernel_rfl
            iterate 6
              refine SeqC.calm (a' := ?_) (by decide) (by decide) ?_ ?_ ?_
              rotate_left
              ·
                intro b1 b2 w1 ec1 ec2 ed1 ed2 hw1
                try obtain rfl := ec2 (by kernel_rfl)
                have HW1 := hid hw1
                have kh := hw1.kh
                have kb := hw1.kb
                have a0 := cell_of kh 0
                have a1 := cell_of kh 1
                have a2 := cell_of kb 0
                have a3 := cell_of kb 1
                clear kh kb
                clear hw1 ec1 ec2 ed1 ed2
                go_wp2_with (first | (go_at_call 18; refine (HD2.out _ HW1.out.t).mono ?_; rintro e w2 ⟨rfl, hX⟩))
                refine ⟨?_, by first | exact HW1.out | exact HW1.out.keep hX⟩
                exact rfl
              · kernel_rfl
            iterate 4
              refine SeqC.calm (a' := ?_) (by decide) (by decide) ?_ ?_ ?_
              rotate_left
              ·
                intro b1 b2 w1 ec1 ec2 ed1 ed2 hw1
                try obtain rfl := ec2 (by kernel_rfl)
                have HW1 := hid hw1
                have kh := hw1.kh
                have kb := hw1.kb
                have a0 := cell_of kh 0
                have a1 := cell_of kh 1
                have a2 := cell_of kb 0
                have a3 := cell_of kb 1
                clear kh kb
                clear hw1 ec1 ec2 ed1 ed2
                go_wp2_with (first | (go_at_call 18; refine (HD3.out _ HW1.out.p).mono ?_; rintro e w2 ⟨rfl, hX⟩))
                refine ⟨?_, by first | exact HW1.out | exact HW1.out.keep hX⟩
                exact rfl
              · kernel_rfl
            refine SeqC.nil ?_
            intro D w1 hD hI
            have HW := hid (F4.mod hI)
            clear hD hI
            dsimp only [List.drop]
            go_wp2_with fail
            go_ret
            exact ⟨by simp, mod_end HW.out⟩
end Go.Proofs.Ytkdimkaladbnpaa
