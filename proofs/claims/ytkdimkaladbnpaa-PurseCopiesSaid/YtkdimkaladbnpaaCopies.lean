/- PurseCopies: the walk. -/
import Derived.Test.YtkdimkaladbnpaaCopyJ
namespace Go.Proofs.Ytkdimkaladbnpaa
open Go.ChangeShapes Go.WideShapes Go.ChangeAt Go.RowKit Go.Burg
open Go.Burg.Purse

/-- Two purses apart. -/
structure Apart (b m mb b2 m2 mb2 : Nat) : Prop where
  h1 : b2 ≠ b
  h2 : b2 ≠ m
  h3 : b2 ≠ mb
  h4 : m2 ≠ b
  h5 : m2 ≠ m
  h6 : m2 ≠ mb
  h7 : mb2 ≠ b
  h8 : mb2 ≠ m
  h9 : mb2 ≠ mb
theorem Apart.one {b m mb b2 m2 mb2 : Nat} (h : Apart b m mb b2 m2 mb2) : b ≠ b2 ∧ b ≠ m2 ∧ b ≠ mb2 := ⟨h.h1.symm, h.h4.symm, h.h7.symm⟩
theorem Apart.two {b m mb b2 m2 mb2 : Nat} (h : Apart b m mb b2 m2 mb2) : m ≠ b2 ∧ m ≠ m2 ∧ m ≠ mb2 := ⟨h.h2.symm, h.h5.symm, h.h8.symm⟩
theorem Apart.three {b m mb b2 m2 mb2 : Nat} (h : Apart b m mb b2 m2 mb2) : mb ≠ b2 ∧ mb ≠ m2 ∧ mb ≠ mb2 := ⟨h.h3.symm, h.h6.symm, h.h9.symm⟩
theorem Apart.one' {b m mb b2 m2 mb2 : Nat} (h : Apart b m mb b2 m2 mb2) : b2 ≠ b ∧ b2 ≠ m ∧ b2 ≠ mb := ⟨h.h1, h.h2, h.h3⟩
theorem Apart.two' {b m mb b2 m2 mb2 : Nat} (h : Apart b m mb b2 m2 mb2) : m2 ≠ b ∧ m2 ≠ m ∧ m2 ≠ mb := ⟨h.h4, h.h5, h.h6⟩
theorem Apart.three' {b m mb b2 m2 mb2 : Nat} (h : Apart b m mb b2 m2 mb2) : mb2 ≠ b ∧ mb2 ≠ m ∧ mb2 ≠ mb := ⟨h.h7, h.h8, h.h9⟩

set_option maxRecDepth 100000 in
set_option maxHeartbeats 8000000 in
theorem copies_in (lk lb : Int) (a0 a1 a2 : Option Addr) (len0 cap0 len1 cap1 len2 cap2 : Nat) (ds0 ds1 ds2 : Nat → Int × Int × Int × Int) (w : World) (hD0 : DeedsAt w a0 len0 ds0) (hD1 : DeedsAt w a1 len1 ds1) (hD2 : DeedsAt w a2 len2 ds2)
    (h1 : 0 ≤ lk) (h2 : lk ≤ big) (h3 : 0 ≤ lb) (h4 : lb ≤ big) (hlen0 : len0 ≤ 100) (hlen1 : len1 ≤ 100) (hlen2 : len2 ≤ 100) :
    Calls Try.prog 6 #[.agg #[.int .u64 lk, .int .u64 lb], .slice a0 len0 cap0, .slice a1 len1 cap1, .slice a2 len2 cap2] w fun e w' => e = .returned (.bool true) ∧ Below w.heap.size w w' := by
  have HI := hid (Inv.new h1 h2 h3 h4)
  clear h1 h2 h3 h4
  go_enter Try.func6, Try.ntmps6
  go_wp2_with fail
  refine (new_at lk lb _).mono ?_
  rintro e w2 ⟨b, m, rfl, hP, hb1, hm1, hX⟩
  have hN2 := blk_below (heap_new w (.cells #[.int .u64 lk, .int .u64 lb] 24)) hX (by simp)
  have n0 := cell_of hN2 0
  have n1 := cell_of hN2 1
  have hM2 : Mod (fun i => w.heap.size ≤ i) w w2 := mod_bel ((Mod.refl _ _).alloc _) hX
  have hlt := lt_of_block hN2
  obtain ⟨lb2, lm2⟩ := hP.lt
  simp at hb1 hm1
  have HS : Hid (PS w b m w2.heap.size (St.new lk lb) #[.int .u64 lk, .int .u64 lb, .int .u64 0, .int .u64 0, .slice none 0 0] (.slice none 0 0) [] (w2.alloc (.cells #[.int .u64 lk, .int .u64 lb, .int .u64 0, .int .u64 0, .slice none 0 0] 39))) :=
    hid ⟨hP.alloc _, heap_new _ _, (TkAt.nil w2).alloc _, hM2.alloc _, by omega, by omega, by omega, by omega, by omega⟩
  have hbm : b ≠ m := hP.ne
  clear hP hX hN2 hM2
  go_wp2_with fail
  generalize w2.alloc (.cells #[.int .u64 lk, .int .u64 lb, .int .u64 0, .int .u64 0, .slice none 0 0] 39) = W0 at *
  generalize w2.heap.size = mb at *
  clear n0 n1
  go_loopw [11] (fun iv wr => ∃ (k : Nat) (s : St) (r : RSt) (v : Value), k ≤ len0 ∧ iv = .int .i64 k ∧ Inv s ∧ Goes s r ∧ s.last ≤ k ∧ PS w b m mb s #[.int .u64 r.xk, .int .u64 r.xb, .int .u64 r.hk, .int .u64 r.hb, v] v r.T wr) (fun iv _ => len0 - (intOf iv).toNat)
  case atStart => exact ⟨0, St.new lk lb, ⟨lk, lb, 0, 0, []⟩, .slice none 0 0, Nat.zero_le _, rfl, HI.out, Goes.new lk lb, Int.le_refl _, HS.out⟩
  case round =>
    clear HS
    obtain ⟨k, s, r, v, hk, rfl, hi, hg, hl, hS⟩ := hrel
    obtain ⟨av, cv, rfl, _⟩ := hS.tk.form
    have hlT := hg.last
    have HG := hid hg
    have HI := hid hi
    have HL := hid hlT
    have HS := hid hS
    clear hS hg hi hlT
    obtain ⟨W, hWW⟩ : ∃ W : World, W = wr := ⟨_, rfl⟩
    subst hWW
    by_cases hlt : k < len0
    · skip
      obtain ⟨bl, off, ha, hbl, hall⟩ := hD0 (by omega)
      subst ha
      obtain ⟨⟨d0, d1, d2, d3⟩, hk0, hy0⟩ := hall k (by assumption)
      generalize ds0 k = d at d0 d1 d2 d3 hk0 hy0
      obtain ⟨what, t, kk, yy⟩ := d
      simp only at d0 d1 d2 d3 hk0 hy0
      clear hall
      have D0 := hid d0
      have D1 := hid d1
      have D2 := hid d2
      have D3 := hid d3
      obtain ⟨rA, hr'⟩ : ∃ r', r.act (what % 6) t kk yy = r' := ⟨_, rfl⟩
      obtain ⟨sA, hs'⟩ : ∃ s', (s.act (what % 6) t kk yy).2.2 = s' := ⟨_, rfl⟩
      have hg' := HG.out.act HI.out hk0 hy0 (what % 6) t
      have hi' := HI.out.act hk0 hy0 (what % 6) t
      have hl' := (max_act HI.out (what % 6) t kk yy).2
      have hlb := HL.out
      have HQ := hid (fun (w1 : World) (v : Value) (hP : PurseAt w1 b m s) (hT : TkAt w1 v r.T) => does_at hP HI.out (by omega) HG.out hT what t kk yy hk0 hy0)
      rw [hr', hs'] at HQ hg'
      rw [hs'] at hi' hl'
      have HGA := hid hg'
      have HIA := hid hi'
      have HLA := hid hl'
      clear d0 d1 d2 d3 hr' hs' hg' hi' hl' hk0 hy0 hlb
      go_wp2_with fail
      refine wp_region_val 11 (KJ W b m mb s sA #[.int .u64 r.xk, .int .u64 r.xb, .int .u64 r.hk, .int .u64 r.hb, (.slice av r.T.length cv)] (.slice av r.T.length cv) r.T 6 (fun j => [(.pointer (some ⟨b, 0, none⟩)), .agg #[.int .u64 r.xk, .int .u64 r.xb, .int .u64 r.hk, .int .u64 r.hb, .slice av r.T.length cv], (.slice (some ⟨bl, off, none⟩) len0 cap0), (.int .i64 k), (.pointer (some ⟨bl, off + k * 4, none⟩)), (.agg #[.int .i64 what, .int .i64 t, .int .u64 kk, .int .u64 yy])].getD j undef) rA) (by kernel_rfl) (by kernel_rfl) (by kernel_rfl) ?h0 ?hs ?hend
      case h0 => exact KJ.start HS.out
      case hs =>
        dsimp only [List.take, AllOpsI, dsts, fill]
        refine ⟨?_, ?_, ?_, ?_, ?_, ?_, ?_, ?_, ?_, ?_, ?_⟩
        · intro D xs w1 hDk hwt hJ
          have HJ := hid hJ
          have HD := hid hDk
          clear hDk hwt hJ
          go_wp2_with fail
          exact ⟨.pointer (some ⟨b, 0, none⟩), by kernel_rfl, fun u hu => by obtain rfl := hu rfl; exact HJ.out.calm HD.out (by decide) (by decide) (TV.low (by decide) rfl)⟩
        · intro D xs w1 hDk hwt hJ
          have hbx := hJ.before hDk
          have b0 := cell_of hbx 0
          have b1 := cell_of hbx 1
          have b2 := cell_of hbx 2
          have b3 := cell_of hbx 3
          have b4 := cell_of hbx 4
          clear hbx
          have HJ := hid hJ
          have HD := hid hDk
          clear hDk hwt hJ
          go_wp2_with fail
          exact ⟨.agg #[.int .u64 r.xk, .int .u64 r.xb, .int .u64 r.hk, .int .u64 r.hb, .slice av r.T.length cv], by kernel_rfl, fun u hu => by obtain rfl := hu rfl; exact HJ.out.calm HD.out (by decide) (by decide) (TV.low (by decide) rfl)⟩
        · intro D xs w1 hDk hwt hJ
          have HJ := hid hJ
          have HD := hid hDk
          clear hDk hwt hJ
          go_wp2_with fail
          exact ⟨.slice (some ⟨bl, off, none⟩) len0 cap0, by kernel_rfl, fun u hu => by obtain rfl := hu rfl; exact HJ.out.calm HD.out (by decide) (by decide) (TV.low (by decide) rfl)⟩
        · intro D xs w1 hDk hwt hJ
          have HJ := hid hJ
          have HD := hid hDk
          clear hDk hwt hJ
          go_wp2_with fail
          exact ⟨.int .i64 k, by kernel_rfl, fun u hu => by obtain rfl := hu rfl; exact HJ.out.calm HD.out (by decide) (by decide) (TV.low (by decide) rfl)⟩
        · intro D xs w1 hDk hwt hJ
          have e2 : xs 2 = .slice (some ⟨bl, off, none⟩) len0 cap0 := (hJ.val 2 (hwt 2 (List.mem_of_elem_eq_true (by kernel_rfl)))).1 (by decide)
          have e3 : xs 3 = .int .i64 k := (hJ.val 3 (hwt 3 (List.mem_of_elem_eq_true (by kernel_rfl)))).1 (by decide)
          rw [e2, e3]
          clear e2 e3
          have HJ := hid hJ
          have HD := hid hDk
          clear hDk hwt hJ
          go_wp2_with fail
          exact ⟨.pointer (some ⟨bl, off + k * 4, none⟩), by kernel_rfl, fun u hu => by obtain rfl := hu rfl; exact HJ.out.calm HD.out (by decide) (by decide) (TV.low (by decide) rfl)⟩
        · intro D xs w1 hDk hwt hJ
          have g0 := (hJ.old HS.out hbl _).trans D0.out
          have g1 := (hJ.old HS.out hbl _).trans D1.out
          have g2 := (hJ.old HS.out hbl _).trans D2.out
          have g3 := (hJ.old HS.out hbl _).trans D3.out
          have e4 : xs 4 = .pointer (some ⟨bl, off + k * 4, none⟩) := (hJ.val 4 (hwt 4 (List.mem_of_elem_eq_true (by kernel_rfl)))).1 (by decide)
          rw [e4]
          clear e4
          have HJ := hid hJ
          have HD := hid hDk
          clear hDk hwt hJ
          go_wp2_with fail
          exact ⟨.agg #[.int .i64 what, .int .i64 t, .int .u64 kk, .int .u64 yy], by kernel_rfl, fun u hu => by obtain rfl := hu rfl; exact HJ.out.calm HD.out (by decide) (by decide) (TV.low (by decide) rfl)⟩
        · intro D xs w1 hDk hwt hJ
          have e0 : xs 0 = .pointer (some ⟨b, 0, none⟩) := (hJ.val 0 (hwt 0 (List.mem_of_elem_eq_true (by kernel_rfl)))).1 (by decide)
          have e1 : xs 1 = .agg #[.int .u64 r.xk, .int .u64 r.xb, .int .u64 r.hk, .int .u64 r.hb, .slice av r.T.length cv] := (hJ.val 1 (hwt 1 (List.mem_of_elem_eq_true (by kernel_rfl)))).1 (by decide)
          have e5 : xs 5 = .agg #[.int .i64 what, .int .i64 t, .int .u64 kk, .int .u64 yy] := (hJ.val 5 (hwt 5 (List.mem_of_elem_eq_true (by kernel_rfl)))).1 (by decide)
          rw [e0, e1, e5]
          clear e0 e1 e5
          have hP0 := hJ.pu
          rw [hDk] at hP0
          have HP0 : Hid (PurseAt w1 b m s) := hid hP0
          have HW1 := hid (hwt 1 (List.mem_of_elem_eq_true (by kernel_rfl)))
          clear hP0
          have HJ := hid hJ
          have HD := hid hDk
          clear hDk hwt hJ
          go_wp2_with (go_at_call 15; refine (HQ.out _ _ HP0.out HJ.out.tk).mono ?_; rintro e w2 ⟨v', rfl, hP2, hT2, hM2⟩)
          exact ⟨_, by kernel_rfl, fun u hu => by obtain rfl := hu rfl; exact HJ.out.call HD.out HW1.out hP2 hT2 hM2⟩
        · intro D xs w1 hDk hwt hJ
          obtain ⟨v', e6, hT6⟩ : ∃ v', xs 6 = .tuple #[.agg #[.int .u64 rA.xk, .int .u64 rA.xb, .int .u64 rA.hk, .int .u64 rA.hb, v'], .bool true] ∧ TkAt w1 v' rA.T := (hJ.val 6 (hwt 6 (List.mem_of_elem_eq_true (by kernel_rfl)))).2.1 (by decide)
          rw [e6]
          clear e6
          have HJ := hid hJ
          have HD := hid hDk
          clear hDk hwt hJ
          go_wp2_with fail
          exact ⟨_, by kernel_rfl, fun u hu => by obtain rfl := hu rfl; exact HJ.out.calm HD.out (by decide) (by decide) (TV.mid (.inr rfl) hT6)⟩
        · intro D xs w1 hDk hwt hJ
          obtain ⟨v', e6, hT6⟩ : ∃ v', xs 7 = .tuple #[.agg #[.int .u64 rA.xk, .int .u64 rA.xb, .int .u64 rA.hk, .int .u64 rA.hb, v'], .bool true] ∧ TkAt w1 v' rA.T := (hJ.val 7 (hwt 7 (List.mem_of_elem_eq_true (by kernel_rfl)))).2.1 (by decide)
          rw [e6]
          clear e6
          have HJ := hid hJ
          have HD := hid hDk
          clear hDk hwt hJ
          go_wp2_with fail
          exact ⟨_, by kernel_rfl, fun u hu => by obtain rfl := hu rfl; exact HJ.out.calm HD.out (by decide) (by decide) (TV.fst hT6)⟩
        · intro D xs w1 hDk hwt hJ
          obtain ⟨v', e6, hT6⟩ : ∃ v', xs 7 = .tuple #[.agg #[.int .u64 rA.xk, .int .u64 rA.xb, .int .u64 rA.hk, .int .u64 rA.hb, v'], .bool true] ∧ TkAt w1 v' rA.T := (hJ.val 7 (hwt 7 (List.mem_of_elem_eq_true (by kernel_rfl)))).2.1 (by decide)
          rw [e6]
          clear e6
          have HJ := hid hJ
          have HD := hid hDk
          clear hDk hwt hJ
          go_wp2_with fail
          exact ⟨_, by kernel_rfl, fun u hu => by obtain rfl := hu rfl; exact HJ.out.calm HD.out (by decide) (by decide) (TV.snd)⟩
        · intro D xs w1 hDk hwt hJ
          obtain ⟨v', e8, hT8⟩ := (hJ.val 8 (hwt 8 (List.mem_of_elem_eq_true (by kernel_rfl)))).2.2.1 rfl
          have e8' : xs 8 = _ := e8
          have g6 := hJ.mbox
          have hD11 : D 10 = false := hDk
          rw [show D (6 + 4) = false from hD11] at g6
          rw [e8']
          obtain ⟨av', cv', rfl, _⟩ := hT8.form
          simp only [cond_false] at g6
          have z0 := cell_of g6 0
          have z1 := cell_of g6 1
          have z2 := cell_of g6 2
          have z3 := cell_of g6 3
          have z4 := cell_of g6 4
          have zf := free_of g6
          have zl := lt_of_block g6
          have H8 := hid e8
          have HW8 := hid (hwt 8 (List.mem_of_elem_eq_true (by kernel_rfl)))
          have HWc := hid (hwt 6 (List.mem_of_elem_eq_true (by kernel_rfl)))
          clear e8 e8' hT8 g6 hD11
          have HJ := hid hJ
          have HD := hid hDk
          clear hDk hwt hJ
          go_wp2_with fail
          exact ⟨undef, by kernel_rfl, fun u _ => HJ.out.store HD.out HWc.out HW8.out H8.out rfl⟩
      case hend =>
        intro D xs w1 hD hJ
        obtain ⟨v', hT8, e9, hbx, hP8, hM8⟩ := hJ.done hD
        have e9' : xs 9 = _ := e9
        dsimp only [List.take, List.drop, dsts, fill]
        rw [e9']
        clear hD hJ e9 e9'
        have HB := hid (HS.out.behind hP8 hbx hT8 hM8)
        clear hT8 hbx hP8 hM8
        go_wp2_with fail
        go_roundw
        case rel => exact ⟨k + 1, sA, rA, v', by omega, by go_num, HIA.out, HGA.out, (by have := HLA.out; have := HL.out; omega), HB.out⟩
        case measure => simp [intOf]; omega
    · obtain rfl : k = len0 := by omega
      clear hlt hD0
      have mx := HS.out.mbox
      have x0 := cell_of mx 0
      have x1 := cell_of mx 1
      have x2 := cell_of mx 2
      have x3 := cell_of mx 3
      have x4 := cell_of mx 4
      have hlx := lt_of_block mx
      clear mx
      go_wp2_with fail
      refine (copy_at HS.out.pu).mono ?_
      rintro e w3 ⟨b2, m2, rfl, hQ, hb2, hm2, hbm2, hX⟩
      obtain ⟨lq1, lq2⟩ := hQ.lt
      obtain ⟨lp1, lp2⟩ := HS.out.pu.lt
      have hS3 := HS.out.keep hX
      have hln := hS3.mod.size
      have lw := HS.out.mod.size
      have mx := hS3.mbox
      have x0 := cell_of mx 0
      have x1 := cell_of mx 1
      have x2 := cell_of mx 2
      have x3 := cell_of mx 3
      have x4 := cell_of mx 4
      have H1 := hid (hS3.alloc (.cells #[.int .u64 r.xk, .int .u64 r.xb, .int .u64 r.hk, .int .u64 r.hb, (.slice av r.T.length cv)] 39))
      have H2 : Hid (PS w b2 m2 w3.heap.size s #[.int .u64 r.xk, .int .u64 r.xb, .int .u64 r.hk, .int .u64 r.hb, (.slice av r.T.length cv)] (.slice av r.T.length cv) r.T (w3.alloc (.cells #[.int .u64 r.xk, .int .u64 r.xb, .int .u64 r.hk, .int .u64 r.hb, (.slice av r.T.length cv)] 39))) :=
        hid ⟨hQ.alloc _, heap_new _ _, hS3.tk.alloc _, hS3.mod.alloc _, by omega, by omega, by omega, by omega, by omega⟩
      have hap : Apart b m mb b2 m2 w3.heap.size := ⟨by omega, by omega, by omega, by omega, by omega, by omega, by have := lt_of_block mx; omega, by have := lt_of_block mx; omega, by have := lt_of_block mx; omega⟩
      have hl0 : s.last ≤ 100 := by omega
      clear hX hQ hS3 mx HS
      go_wp2_with fail
      generalize w3.alloc (.cells #[.int .u64 r.xk, .int .u64 r.xb, .int .u64 r.hk, .int .u64 r.hb, (.slice av r.T.length cv)] 39) = W3 at *
      generalize w3.heap.size = mb2 at *
      clear x0 x1 x2 x3 x4 hl
      go_loopw [14] (fun iv wr => ∃ (k : Nat) (s : St) (r : RSt) (v : Value) (s2 : St) (r2 : RSt) (v2 : Value), k ≤ 100 ∧ iv = .int .i64 k ∧ Inv s ∧ Goes s r ∧ s.last ≤ 100 + k ∧ Inv s2 ∧ Goes s2 r2 ∧ s2.last ≤ 100 + k ∧ PS w b m mb s #[.int .u64 r.xk, .int .u64 r.xb, .int .u64 r.hk, .int .u64 r.hb, v] v r.T wr ∧ PS w b2 m2 mb2 s2 #[.int .u64 r2.xk, .int .u64 r2.xb, .int .u64 r2.hk, .int .u64 r2.hb, v2] v2 r2.T wr) (fun iv _ => 100 - (intOf iv).toNat)
      case atStart => exact ⟨0, s, r, _, s, r, _, by omega, rfl, HI.out, HG.out, by omega, HI.out, HG.out, by omega, H1.out, H2.out⟩
      case round =>
        clear H1 H2 HG HI HL
        obtain ⟨k, s, r, v, s2, r2, v2, hk, rfl, hi, hg, hl, hi2, hg2, hl2, hS, hS2⟩ := hrel
        obtain ⟨av, cv, rfl, _⟩ := hS.tk.form
        obtain ⟨av2, cv2, rfl, _⟩ := hS2.tk.form
        have HG := hid hg
        have HI := hid hi
        have HL := hid hg.last
        have HG2 := hid hg2
        have HI2 := hid hi2
        have HL2 := hid hg2.last
        obtain ⟨W, hWW⟩ : ∃ W : World, W = wr := ⟨_, rfl⟩
        subst hWW
        have HS := hid hS
        have HS2 := hid hS2
        have HAP := hid hap
        clear hS hS2 hi hg hi2 hg2 hap
        by_cases hl1 : k < len1
        · skip
          obtain ⟨bl, off, ha, hbl, hall⟩ := hD1 (by omega)
          subst ha
          obtain ⟨⟨d0, d1, d2, d3⟩, hk0, hy0⟩ := hall k (by assumption)
          generalize ds1 k = d at d0 d1 d2 d3 hk0 hy0
          obtain ⟨what, t, kk, yy⟩ := d
          simp only at d0 d1 d2 d3 hk0 hy0
          clear hall
          have D0 := hid d0
          have D1 := hid d1
          have D2 := hid d2
          have D3 := hid d3
          obtain ⟨rA, hr'⟩ : ∃ r', r.act (what % 6) t kk yy = r' := ⟨_, rfl⟩
          obtain ⟨sA, hs'⟩ : ∃ s', (s.act (what % 6) t kk yy).2.2 = s' := ⟨_, rfl⟩
          have hg' := HG.out.act HI.out hk0 hy0 (what % 6) t
          have hi' := HI.out.act hk0 hy0 (what % 6) t
          have hl' := (max_act HI.out (what % 6) t kk yy).2
          have hlb := HL.out
          have HQ := hid (fun (w1 : World) (v : Value) (hP : PurseAt w1 b m s) (hT : TkAt w1 v r.T) => does_at hP HI.out (by omega) HG.out hT what t kk yy hk0 hy0)
          rw [hr', hs'] at HQ hg'
          rw [hs'] at hi' hl'
          have HGA := hid hg'
          have HIA := hid hi'
          have HLA := hid hl'
          clear d0 d1 d2 d3 hr' hs' hg' hi' hl' hk0 hy0 hlb
          go_wp2_with fail
          refine wp_region_val 11 (KJ W b m mb s sA #[.int .u64 r.xk, .int .u64 r.xb, .int .u64 r.hk, .int .u64 r.hb, (.slice av r.T.length cv)] (.slice av r.T.length cv) r.T 6 (fun j => [(.pointer (some ⟨b, 0, none⟩)), .agg #[.int .u64 r.xk, .int .u64 r.xb, .int .u64 r.hk, .int .u64 r.hb, .slice av r.T.length cv], (.slice (some ⟨bl, off, none⟩) len1 cap1), (.int .i64 k), (.pointer (some ⟨bl, off + k * 4, none⟩)), (.agg #[.int .i64 what, .int .i64 t, .int .u64 kk, .int .u64 yy])].getD j undef) rA) (by kernel_rfl) (by kernel_rfl) (by kernel_rfl) ?h0 ?hs ?hend
          case h0 => exact KJ.start HS.out
          case hs =>
            dsimp only [List.take, AllOpsI, dsts, fill]
            refine ⟨?_, ?_, ?_, ?_, ?_, ?_, ?_, ?_, ?_, ?_, ?_⟩
            · intro D xs w1 hDk hwt hJ
              have HJ := hid hJ
              have HD := hid hDk
              clear hDk hwt hJ
              go_wp2_with fail
              exact ⟨.pointer (some ⟨b, 0, none⟩), by kernel_rfl, fun u hu => by obtain rfl := hu rfl; exact HJ.out.calm HD.out (by decide) (by decide) (TV.low (by decide) rfl)⟩
            · intro D xs w1 hDk hwt hJ
              have hbx := hJ.before hDk
              have b0 := cell_of hbx 0
              have b1 := cell_of hbx 1
              have b2 := cell_of hbx 2
              have b3 := cell_of hbx 3
              have b4 := cell_of hbx 4
              clear hbx
              have HJ := hid hJ
              have HD := hid hDk
              clear hDk hwt hJ
              go_wp2_with fail
              exact ⟨.agg #[.int .u64 r.xk, .int .u64 r.xb, .int .u64 r.hk, .int .u64 r.hb, .slice av r.T.length cv], by kernel_rfl, fun u hu => by obtain rfl := hu rfl; exact HJ.out.calm HD.out (by decide) (by decide) (TV.low (by decide) rfl)⟩
            · intro D xs w1 hDk hwt hJ
              have HJ := hid hJ
              have HD := hid hDk
              clear hDk hwt hJ
              go_wp2_with fail
              exact ⟨.slice (some ⟨bl, off, none⟩) len1 cap1, by kernel_rfl, fun u hu => by obtain rfl := hu rfl; exact HJ.out.calm HD.out (by decide) (by decide) (TV.low (by decide) rfl)⟩
            · intro D xs w1 hDk hwt hJ
              have HJ := hid hJ
              have HD := hid hDk
              clear hDk hwt hJ
              go_wp2_with fail
              exact ⟨.int .i64 k, by kernel_rfl, fun u hu => by obtain rfl := hu rfl; exact HJ.out.calm HD.out (by decide) (by decide) (TV.low (by decide) rfl)⟩
            · intro D xs w1 hDk hwt hJ
              have e2 : xs 2 = .slice (some ⟨bl, off, none⟩) len1 cap1 := (hJ.val 2 (hwt 2 (List.mem_of_elem_eq_true (by kernel_rfl)))).1 (by decide)
              have e3 : xs 3 = .int .i64 k := (hJ.val 3 (hwt 3 (List.mem_of_elem_eq_true (by kernel_rfl)))).1 (by decide)
              rw [e2, e3]
              clear e2 e3
              have HJ := hid hJ
              have HD := hid hDk
              clear hDk hwt hJ
              go_wp2_with fail
              exact ⟨.pointer (some ⟨bl, off + k * 4, none⟩), by kernel_rfl, fun u hu => by obtain rfl := hu rfl; exact HJ.out.calm HD.out (by decide) (by decide) (TV.low (by decide) rfl)⟩
            · intro D xs w1 hDk hwt hJ
              have g0 := (hJ.old HS.out hbl _).trans D0.out
              have g1 := (hJ.old HS.out hbl _).trans D1.out
              have g2 := (hJ.old HS.out hbl _).trans D2.out
              have g3 := (hJ.old HS.out hbl _).trans D3.out
              have e4 : xs 4 = .pointer (some ⟨bl, off + k * 4, none⟩) := (hJ.val 4 (hwt 4 (List.mem_of_elem_eq_true (by kernel_rfl)))).1 (by decide)
              rw [e4]
              clear e4
              have HJ := hid hJ
              have HD := hid hDk
              clear hDk hwt hJ
              go_wp2_with fail
              exact ⟨.agg #[.int .i64 what, .int .i64 t, .int .u64 kk, .int .u64 yy], by kernel_rfl, fun u hu => by obtain rfl := hu rfl; exact HJ.out.calm HD.out (by decide) (by decide) (TV.low (by decide) rfl)⟩
            · intro D xs w1 hDk hwt hJ
              have e0 : xs 0 = .pointer (some ⟨b, 0, none⟩) := (hJ.val 0 (hwt 0 (List.mem_of_elem_eq_true (by kernel_rfl)))).1 (by decide)
              have e1 : xs 1 = .agg #[.int .u64 r.xk, .int .u64 r.xb, .int .u64 r.hk, .int .u64 r.hb, .slice av r.T.length cv] := (hJ.val 1 (hwt 1 (List.mem_of_elem_eq_true (by kernel_rfl)))).1 (by decide)
              have e5 : xs 5 = .agg #[.int .i64 what, .int .i64 t, .int .u64 kk, .int .u64 yy] := (hJ.val 5 (hwt 5 (List.mem_of_elem_eq_true (by kernel_rfl)))).1 (by decide)
              rw [e0, e1, e5]
              clear e0 e1 e5
              have hP0 := hJ.pu
              rw [hDk] at hP0
              have HP0 : Hid (PurseAt w1 b m s) := hid hP0
              have HW1 := hid (hwt 1 (List.mem_of_elem_eq_true (by kernel_rfl)))
              clear hP0
              have HJ := hid hJ
              have HD := hid hDk
              clear hDk hwt hJ
              go_wp2_with (go_at_call 15; refine (HQ.out _ _ HP0.out HJ.out.tk).mono ?_; rintro e w2 ⟨v', rfl, hP2, hT2, hM2⟩)
              exact ⟨_, by kernel_rfl, fun u hu => by obtain rfl := hu rfl; exact HJ.out.call HD.out HW1.out hP2 hT2 hM2⟩
            · intro D xs w1 hDk hwt hJ
              obtain ⟨v', e6, hT6⟩ : ∃ v', xs 6 = .tuple #[.agg #[.int .u64 rA.xk, .int .u64 rA.xb, .int .u64 rA.hk, .int .u64 rA.hb, v'], .bool true] ∧ TkAt w1 v' rA.T := (hJ.val 6 (hwt 6 (List.mem_of_elem_eq_true (by kernel_rfl)))).2.1 (by decide)
              rw [e6]
              clear e6
              have HJ := hid hJ
              have HD := hid hDk
              clear hDk hwt hJ
              go_wp2_with fail
              exact ⟨_, by kernel_rfl, fun u hu => by obtain rfl := hu rfl; exact HJ.out.calm HD.out (by decide) (by decide) (TV.mid (.inr rfl) hT6)⟩
            · intro D xs w1 hDk hwt hJ
              obtain ⟨v', e6, hT6⟩ : ∃ v', xs 7 = .tuple #[.agg #[.int .u64 rA.xk, .int .u64 rA.xb, .int .u64 rA.hk, .int .u64 rA.hb, v'], .bool true] ∧ TkAt w1 v' rA.T := (hJ.val 7 (hwt 7 (List.mem_of_elem_eq_true (by kernel_rfl)))).2.1 (by decide)
              rw [e6]
              clear e6
              have HJ := hid hJ
              have HD := hid hDk
              clear hDk hwt hJ
              go_wp2_with fail
              exact ⟨_, by kernel_rfl, fun u hu => by obtain rfl := hu rfl; exact HJ.out.calm HD.out (by decide) (by decide) (TV.fst hT6)⟩
            · intro D xs w1 hDk hwt hJ
              obtain ⟨v', e6, hT6⟩ : ∃ v', xs 7 = .tuple #[.agg #[.int .u64 rA.xk, .int .u64 rA.xb, .int .u64 rA.hk, .int .u64 rA.hb, v'], .bool true] ∧ TkAt w1 v' rA.T := (hJ.val 7 (hwt 7 (List.mem_of_elem_eq_true (by kernel_rfl)))).2.1 (by decide)
              rw [e6]
              clear e6
              have HJ := hid hJ
              have HD := hid hDk
              clear hDk hwt hJ
              go_wp2_with fail
              exact ⟨_, by kernel_rfl, fun u hu => by obtain rfl := hu rfl; exact HJ.out.calm HD.out (by decide) (by decide) (TV.snd)⟩
            · intro D xs w1 hDk hwt hJ
              obtain ⟨v', e8, hT8⟩ := (hJ.val 8 (hwt 8 (List.mem_of_elem_eq_true (by kernel_rfl)))).2.2.1 rfl
              have e8' : xs 8 = _ := e8
              have g6 := hJ.mbox
              have hD11 : D 10 = false := hDk
              rw [show D (6 + 4) = false from hD11] at g6
              rw [e8']
              obtain ⟨av', cv', rfl, _⟩ := hT8.form
              simp only [cond_false] at g6
              have z0 := cell_of g6 0
              have z1 := cell_of g6 1
              have z2 := cell_of g6 2
              have z3 := cell_of g6 3
              have z4 := cell_of g6 4
              have zf := free_of g6
              have zl := lt_of_block g6
              have H8 := hid e8
              have HW8 := hid (hwt 8 (List.mem_of_elem_eq_true (by kernel_rfl)))
              have HWc := hid (hwt 6 (List.mem_of_elem_eq_true (by kernel_rfl)))
              clear e8 e8' hT8 g6 hD11
              have HJ := hid hJ
              have HD := hid hDk
              clear hDk hwt hJ
              go_wp2_with fail
              exact ⟨undef, by kernel_rfl, fun u _ => HJ.out.store HD.out HWc.out HW8.out H8.out rfl⟩
          case hend =>
            intro D xs w1 hD hJ
            obtain ⟨v', hT8, e9, hbx, hP8, hM8⟩ := hJ.done hD
            have e9' : xs 9 = _ := e9
            dsimp only [List.take, List.drop, dsts, fill]
            rw [e9']
            clear hD hJ e9 e9'
            have HB1 := hid (HS.out.behind hP8 hbx hT8 hM8)
            have HB2 := hid (HS2.out.apart HS.out hM8 HAP.out.one' HAP.out.two' HAP.out.three')
            have hq1 := HLA.out
            obtain ⟨av3, cv3, rfl, _⟩ := hT8.form
            have hp1 := HL.out
            have hp2 := HL2.out
            clear hT8 hbx hP8 hM8 HQ D0 D1 D2 D3 HS HS2
            obtain ⟨W2, hWW2⟩ : ∃ W2 : World, W2 = w1 := ⟨_, rfl⟩
            subst hWW2
            by_cases hl3 : k < len2
            · skip
              obtain ⟨bl, off, ha, hbl, hall⟩ := hD2 (by omega)
              subst ha
              obtain ⟨⟨d0, d1, d2, d3⟩, hk0, hy0⟩ := hall k (by assumption)
              generalize ds2 k = d at d0 d1 d2 d3 hk0 hy0
              obtain ⟨what, t, kk, yy⟩ := d
              simp only at d0 d1 d2 d3 hk0 hy0
              clear hall
              have D0 := hid d0
              have D1 := hid d1
              have D2 := hid d2
              have D3 := hid d3
              obtain ⟨rB, hr'⟩ : ∃ r', r2.act (what % 6) t kk yy = r' := ⟨_, rfl⟩
              obtain ⟨sB, hs'⟩ : ∃ s', (s2.act (what % 6) t kk yy).2.2 = s' := ⟨_, rfl⟩
              have hg' := HG2.out.act HI2.out hk0 hy0 (what % 6) t
              have hi' := HI2.out.act hk0 hy0 (what % 6) t
              have hl' := (max_act HI2.out (what % 6) t kk yy).2
              have hlb := HL2.out
              have HQ := hid (fun (w1 : World) (v : Value) (hP : PurseAt w1 b2 m2 s2) (hT : TkAt w1 v r2.T) => does_at hP HI2.out (by omega) HG2.out hT what t kk yy hk0 hy0)
              rw [hr', hs'] at HQ hg'
              rw [hs'] at hi' hl'
              have HGB := hid hg'
              have HIB := hid hi'
              have HLB := hid hl'
              clear d0 d1 d2 d3 hr' hs' hg' hi' hl' hk0 hy0 hlb
              go_wp2_with fail
              refine wp_region_val 11 (KJ W2 b2 m2 mb2 s2 sB #[.int .u64 r2.xk, .int .u64 r2.xb, .int .u64 r2.hk, .int .u64 r2.hb, (.slice av2 r2.T.length cv2)] (.slice av2 r2.T.length cv2) r2.T 6 (fun j => [(.pointer (some ⟨b2, 0, none⟩)), .agg #[.int .u64 r2.xk, .int .u64 r2.xb, .int .u64 r2.hk, .int .u64 r2.hb, .slice av2 r2.T.length cv2], (.slice (some ⟨bl, off, none⟩) len2 cap2), (.int .i64 k), (.pointer (some ⟨bl, off + k * 4, none⟩)), (.agg #[.int .i64 what, .int .i64 t, .int .u64 kk, .int .u64 yy])].getD j undef) rB) (by kernel_rfl) (by kernel_rfl) (by kernel_rfl) ?h0 ?hs ?hend
              case h0 => exact KJ.start HB2.out
              case hs =>
                dsimp only [List.take, AllOpsI, dsts, fill]
                refine ⟨?_, ?_, ?_, ?_, ?_, ?_, ?_, ?_, ?_, ?_, ?_⟩
                · intro D xs w1 hDk hwt hJ
                  have HJ := hid hJ
                  have HD := hid hDk
                  clear hDk hwt hJ
                  go_wp2_with fail
                  exact ⟨.pointer (some ⟨b2, 0, none⟩), by kernel_rfl, fun u hu => by obtain rfl := hu rfl; exact HJ.out.calm HD.out (by decide) (by decide) (TV.low (by decide) rfl)⟩
                · intro D xs w1 hDk hwt hJ
                  have hbx := hJ.before hDk
                  have b0 := cell_of hbx 0
                  have b1 := cell_of hbx 1
                  have b2 := cell_of hbx 2
                  have b3 := cell_of hbx 3
                  have b4 := cell_of hbx 4
                  clear hbx
                  have HJ := hid hJ
                  have HD := hid hDk
                  clear hDk hwt hJ
                  go_wp2_with fail
                  exact ⟨.agg #[.int .u64 r2.xk, .int .u64 r2.xb, .int .u64 r2.hk, .int .u64 r2.hb, .slice av2 r2.T.length cv2], by kernel_rfl, fun u hu => by obtain rfl := hu rfl; exact HJ.out.calm HD.out (by decide) (by decide) (TV.low (by decide) rfl)⟩
                · intro D xs w1 hDk hwt hJ
                  have HJ := hid hJ
                  have HD := hid hDk
                  clear hDk hwt hJ
                  go_wp2_with fail
                  exact ⟨.slice (some ⟨bl, off, none⟩) len2 cap2, by kernel_rfl, fun u hu => by obtain rfl := hu rfl; exact HJ.out.calm HD.out (by decide) (by decide) (TV.low (by decide) rfl)⟩
                · intro D xs w1 hDk hwt hJ
                  have HJ := hid hJ
                  have HD := hid hDk
                  clear hDk hwt hJ
                  go_wp2_with fail
                  exact ⟨.int .i64 k, by kernel_rfl, fun u hu => by obtain rfl := hu rfl; exact HJ.out.calm HD.out (by decide) (by decide) (TV.low (by decide) rfl)⟩
                · intro D xs w1 hDk hwt hJ
                  have e2 : xs 2 = .slice (some ⟨bl, off, none⟩) len2 cap2 := (hJ.val 2 (hwt 2 (List.mem_of_elem_eq_true (by kernel_rfl)))).1 (by decide)
                  have e3 : xs 3 = .int .i64 k := (hJ.val 3 (hwt 3 (List.mem_of_elem_eq_true (by kernel_rfl)))).1 (by decide)
                  rw [e2, e3]
                  clear e2 e3
                  have HJ := hid hJ
                  have HD := hid hDk
                  clear hDk hwt hJ
                  go_wp2_with fail
                  exact ⟨.pointer (some ⟨bl, off + k * 4, none⟩), by kernel_rfl, fun u hu => by obtain rfl := hu rfl; exact HJ.out.calm HD.out (by decide) (by decide) (TV.low (by decide) rfl)⟩
                · intro D xs w1 hDk hwt hJ
                  have g0 := (hJ.old HB2.out hbl _).trans D0.out
                  have g1 := (hJ.old HB2.out hbl _).trans D1.out
                  have g2 := (hJ.old HB2.out hbl _).trans D2.out
                  have g3 := (hJ.old HB2.out hbl _).trans D3.out
                  have e4 : xs 4 = .pointer (some ⟨bl, off + k * 4, none⟩) := (hJ.val 4 (hwt 4 (List.mem_of_elem_eq_true (by kernel_rfl)))).1 (by decide)
                  rw [e4]
                  clear e4
                  have HJ := hid hJ
                  have HD := hid hDk
                  clear hDk hwt hJ
                  go_wp2_with fail
                  exact ⟨.agg #[.int .i64 what, .int .i64 t, .int .u64 kk, .int .u64 yy], by kernel_rfl, fun u hu => by obtain rfl := hu rfl; exact HJ.out.calm HD.out (by decide) (by decide) (TV.low (by decide) rfl)⟩
                · intro D xs w1 hDk hwt hJ
                  have e0 : xs 0 = .pointer (some ⟨b2, 0, none⟩) := (hJ.val 0 (hwt 0 (List.mem_of_elem_eq_true (by kernel_rfl)))).1 (by decide)
                  have e1 : xs 1 = .agg #[.int .u64 r2.xk, .int .u64 r2.xb, .int .u64 r2.hk, .int .u64 r2.hb, .slice av2 r2.T.length cv2] := (hJ.val 1 (hwt 1 (List.mem_of_elem_eq_true (by kernel_rfl)))).1 (by decide)
                  have e5 : xs 5 = .agg #[.int .i64 what, .int .i64 t, .int .u64 kk, .int .u64 yy] := (hJ.val 5 (hwt 5 (List.mem_of_elem_eq_true (by kernel_rfl)))).1 (by decide)
                  rw [e0, e1, e5]
                  clear e0 e1 e5
                  have hP0 := hJ.pu
                  rw [hDk] at hP0
                  have HP0 : Hid (PurseAt w1 b2 m2 s2) := hid hP0
                  have HW1 := hid (hwt 1 (List.mem_of_elem_eq_true (by kernel_rfl)))
                  clear hP0
                  have HJ := hid hJ
                  have HD := hid hDk
                  clear hDk hwt hJ
                  go_wp2_with (go_at_call 15; refine (HQ.out _ _ HP0.out HJ.out.tk).mono ?_; rintro e w2 ⟨v', rfl, hP2, hT2, hM2⟩)
                  exact ⟨_, by kernel_rfl, fun u hu => by obtain rfl := hu rfl; exact HJ.out.call HD.out HW1.out hP2 hT2 hM2⟩
                · intro D xs w1 hDk hwt hJ
                  obtain ⟨v', e6, hT6⟩ : ∃ v', xs 6 = .tuple #[.agg #[.int .u64 rB.xk, .int .u64 rB.xb, .int .u64 rB.hk, .int .u64 rB.hb, v'], .bool true] ∧ TkAt w1 v' rB.T := (hJ.val 6 (hwt 6 (List.mem_of_elem_eq_true (by kernel_rfl)))).2.1 (by decide)
                  rw [e6]
                  clear e6
                  have HJ := hid hJ
                  have HD := hid hDk
                  clear hDk hwt hJ
                  go_wp2_with fail
                  exact ⟨_, by kernel_rfl, fun u hu => by obtain rfl := hu rfl; exact HJ.out.calm HD.out (by decide) (by decide) (TV.mid (.inr rfl) hT6)⟩
                · intro D xs w1 hDk hwt hJ
                  obtain ⟨v', e6, hT6⟩ : ∃ v', xs 7 = .tuple #[.agg #[.int .u64 rB.xk, .int .u64 rB.xb, .int .u64 rB.hk, .int .u64 rB.hb, v'], .bool true] ∧ TkAt w1 v' rB.T := (hJ.val 7 (hwt 7 (List.mem_of_elem_eq_true (by kernel_rfl)))).2.1 (by decide)
                  rw [e6]
                  clear e6
                  have HJ := hid hJ
                  have HD := hid hDk
                  clear hDk hwt hJ
                  go_wp2_with fail
                  exact ⟨_, by kernel_rfl, fun u hu => by obtain rfl := hu rfl; exact HJ.out.calm HD.out (by decide) (by decide) (TV.fst hT6)⟩
                · intro D xs w1 hDk hwt hJ
                  obtain ⟨v', e6, hT6⟩ : ∃ v', xs 7 = .tuple #[.agg #[.int .u64 rB.xk, .int .u64 rB.xb, .int .u64 rB.hk, .int .u64 rB.hb, v'], .bool true] ∧ TkAt w1 v' rB.T := (hJ.val 7 (hwt 7 (List.mem_of_elem_eq_true (by kernel_rfl)))).2.1 (by decide)
                  rw [e6]
                  clear e6
                  have HJ := hid hJ
                  have HD := hid hDk
                  clear hDk hwt hJ
                  go_wp2_with fail
                  exact ⟨_, by kernel_rfl, fun u hu => by obtain rfl := hu rfl; exact HJ.out.calm HD.out (by decide) (by decide) (TV.snd)⟩
                · intro D xs w1 hDk hwt hJ
                  obtain ⟨v', e8, hT8⟩ := (hJ.val 8 (hwt 8 (List.mem_of_elem_eq_true (by kernel_rfl)))).2.2.1 rfl
                  have e8' : xs 8 = _ := e8
                  have g6 := hJ.mbox
                  have hD11 : D 10 = false := hDk
                  rw [show D (6 + 4) = false from hD11] at g6
                  rw [e8']
                  obtain ⟨av', cv', rfl, _⟩ := hT8.form
                  simp only [cond_false] at g6
                  have z0 := cell_of g6 0
                  have z1 := cell_of g6 1
                  have z2 := cell_of g6 2
                  have z3 := cell_of g6 3
                  have z4 := cell_of g6 4
                  have zf := free_of g6
                  have zl := lt_of_block g6
                  have H8 := hid e8
                  have HW8 := hid (hwt 8 (List.mem_of_elem_eq_true (by kernel_rfl)))
                  have HWc := hid (hwt 6 (List.mem_of_elem_eq_true (by kernel_rfl)))
                  clear e8 e8' hT8 g6 hD11
                  have HJ := hid hJ
                  have HD := hid hDk
                  clear hDk hwt hJ
                  go_wp2_with fail
                  exact ⟨undef, by kernel_rfl, fun u _ => HJ.out.store HD.out HWc.out HW8.out H8.out rfl⟩
              case hend =>
                intro D xs w1 hD hJ
                obtain ⟨v', hT8, e9, hbx, hP8, hM8⟩ := hJ.done hD
                have e9' : xs 9 = _ := e9
                dsimp only [List.take, List.drop, dsts, fill]
                rw [e9']
                clear hD hJ e9 e9'
                have HC2 := hid (HB2.out.behind hP8 hbx hT8 hM8)
                have HC1 := hid (HB1.out.apart HB2.out hM8 HAP.out.one HAP.out.two HAP.out.three)
                have hq2 := HLB.out
                obtain ⟨av3, cv3, rfl, _⟩ := hT8.form
                clear hT8 hbx hP8 hM8
                have mx1 := HC1.out.mbox
                have y0 := cell_of mx1 0
                have y1 := cell_of mx1 1
                have y2 := cell_of mx1 2
                have y3 := cell_of mx1 3
                have y4 := cell_of mx1 4
                clear mx1
                go_wp2_with fail
                refine (looks_at HC1.out.pu HIA.out HGA.out HC1.out.tk (by have := HGA.out.last; omega)).mono ?_
                rintro e w8 ⟨rfl, hB⟩
                have HE1 := hid (HC1.out.keep hB)
                have HE2 := hid (HC2.out.keep hB)
                clear hB y0 y1 y2 y3 y4
                have mx2 := HE2.out.mbox
                have y0 := cell_of mx2 0
                have y1 := cell_of mx2 1
                have y2 := cell_of mx2 2
                have y3 := cell_of mx2 3
                have y4 := cell_of mx2 4
                clear mx2
                go_wp2_with fail
                refine (looks_at HE2.out.pu HIB.out HGB.out HE2.out.tk (by have := HGB.out.last; omega)).mono ?_
                rintro e w9 ⟨rfl, hB⟩
                have HF1 := hid (HE1.out.keep hB)
                have HF2 := hid (HE2.out.keep hB)
                clear hB y0 y1 y2 y3 y4
                go_wp2_with fail
                go_roundw
                case rel => exact ⟨k + 1, sA, rA, _, sB, rB, _, by omega, by go_num, HIA.out, HGA.out, by omega, HIB.out, HGB.out, by omega, HF1.out, HF2.out⟩
                case measure => simp [intOf]; omega
            · skip
              have mx1 := HB1.out.mbox
              have y0 := cell_of mx1 0
              have y1 := cell_of mx1 1
              have y2 := cell_of mx1 2
              have y3 := cell_of mx1 3
              have y4 := cell_of mx1 4
              clear mx1
              go_wp2_with fail
              refine (looks_at HB1.out.pu HIA.out HGA.out HB1.out.tk (by have := HGA.out.last; omega)).mono ?_
              rintro e w8 ⟨rfl, hB⟩
              have HE1 := hid (HB1.out.keep hB)
              have HE2 := hid (HB2.out.keep hB)
              clear hB y0 y1 y2 y3 y4
              have mx2 := HE2.out.mbox
              have y0 := cell_of mx2 0
              have y1 := cell_of mx2 1
              have y2 := cell_of mx2 2
              have y3 := cell_of mx2 3
              have y4 := cell_of mx2 4
              clear mx2
              go_wp2_with fail
              refine (looks_at HE2.out.pu HI2.out HG2.out HE2.out.tk (by have := HG2.out.last; omega)).mono ?_
              rintro e w9 ⟨rfl, hB⟩
              have HF1 := hid (HE1.out.keep hB)
              have HF2 := hid (HE2.out.keep hB)
              clear hB y0 y1 y2 y3 y4
              go_wp2_with fail
              go_roundw
              case rel => exact ⟨k + 1, sA, rA, _, s2, r2, _, by omega, by go_num, HIA.out, HGA.out, by omega, HI2.out, HG2.out, by omega, HF1.out, HF2.out⟩
              case measure => simp [intOf]; omega
        · by_cases hl3 : k < len2
          · skip
            obtain ⟨bl, off, ha, hbl, hall⟩ := hD2 (by omega)
            subst ha
            obtain ⟨⟨d0, d1, d2, d3⟩, hk0, hy0⟩ := hall k (by assumption)
            generalize ds2 k = d at d0 d1 d2 d3 hk0 hy0
            obtain ⟨what, t, kk, yy⟩ := d
            simp only at d0 d1 d2 d3 hk0 hy0
            clear hall
            have D0 := hid d0
            have D1 := hid d1
            have D2 := hid d2
            have D3 := hid d3
            obtain ⟨rB, hr'⟩ : ∃ r', r2.act (what % 6) t kk yy = r' := ⟨_, rfl⟩
            obtain ⟨sB, hs'⟩ : ∃ s', (s2.act (what % 6) t kk yy).2.2 = s' := ⟨_, rfl⟩
            have hg' := HG2.out.act HI2.out hk0 hy0 (what % 6) t
            have hi' := HI2.out.act hk0 hy0 (what % 6) t
            have hl' := (max_act HI2.out (what % 6) t kk yy).2
            have hlb := HL2.out
            have HQ := hid (fun (w1 : World) (v : Value) (hP : PurseAt w1 b2 m2 s2) (hT : TkAt w1 v r2.T) => does_at hP HI2.out (by omega) HG2.out hT what t kk yy hk0 hy0)
            rw [hr', hs'] at HQ hg'
            rw [hs'] at hi' hl'
            have HGB := hid hg'
            have HIB := hid hi'
            have HLB := hid hl'
            clear d0 d1 d2 d3 hr' hs' hg' hi' hl' hk0 hy0 hlb
            go_wp2_with fail
            refine wp_region_val 11 (KJ W b2 m2 mb2 s2 sB #[.int .u64 r2.xk, .int .u64 r2.xb, .int .u64 r2.hk, .int .u64 r2.hb, (.slice av2 r2.T.length cv2)] (.slice av2 r2.T.length cv2) r2.T 6 (fun j => [(.pointer (some ⟨b2, 0, none⟩)), .agg #[.int .u64 r2.xk, .int .u64 r2.xb, .int .u64 r2.hk, .int .u64 r2.hb, .slice av2 r2.T.length cv2], (.slice (some ⟨bl, off, none⟩) len2 cap2), (.int .i64 k), (.pointer (some ⟨bl, off + k * 4, none⟩)), (.agg #[.int .i64 what, .int .i64 t, .int .u64 kk, .int .u64 yy])].getD j undef) rB) (by kernel_rfl) (by kernel_rfl) (by kernel_rfl) ?h0 ?hs ?hend
            case h0 => exact KJ.start HS2.out
            case hs =>
              dsimp only [List.take, AllOpsI, dsts, fill]
              refine ⟨?_, ?_, ?_, ?_, ?_, ?_, ?_, ?_, ?_, ?_, ?_⟩
              · intro D xs w1 hDk hwt hJ
                have HJ := hid hJ
                have HD := hid hDk
                clear hDk hwt hJ
                go_wp2_with fail
                exact ⟨.pointer (some ⟨b2, 0, none⟩), by kernel_rfl, fun u hu => by obtain rfl := hu rfl; exact HJ.out.calm HD.out (by decide) (by decide) (TV.low (by decide) rfl)⟩
              · intro D xs w1 hDk hwt hJ
                have hbx := hJ.before hDk
                have b0 := cell_of hbx 0
                have b1 := cell_of hbx 1
                have b2 := cell_of hbx 2
                have b3 := cell_of hbx 3
                have b4 := cell_of hbx 4
                clear hbx
                have HJ := hid hJ
                have HD := hid hDk
                clear hDk hwt hJ
                go_wp2_with fail
                exact ⟨.agg #[.int .u64 r2.xk, .int .u64 r2.xb, .int .u64 r2.hk, .int .u64 r2.hb, .slice av2 r2.T.length cv2], by kernel_rfl, fun u hu => by obtain rfl := hu rfl; exact HJ.out.calm HD.out (by decide) (by decide) (TV.low (by decide) rfl)⟩
              · intro D xs w1 hDk hwt hJ
                have HJ := hid hJ
                have HD := hid hDk
                clear hDk hwt hJ
                go_wp2_with fail
                exact ⟨.slice (some ⟨bl, off, none⟩) len2 cap2, by kernel_rfl, fun u hu => by obtain rfl := hu rfl; exact HJ.out.calm HD.out (by decide) (by decide) (TV.low (by decide) rfl)⟩
              · intro D xs w1 hDk hwt hJ
                have HJ := hid hJ
                have HD := hid hDk
                clear hDk hwt hJ
                go_wp2_with fail
                exact ⟨.int .i64 k, by kernel_rfl, fun u hu => by obtain rfl := hu rfl; exact HJ.out.calm HD.out (by decide) (by decide) (TV.low (by decide) rfl)⟩
              · intro D xs w1 hDk hwt hJ
                have e2 : xs 2 = .slice (some ⟨bl, off, none⟩) len2 cap2 := (hJ.val 2 (hwt 2 (List.mem_of_elem_eq_true (by kernel_rfl)))).1 (by decide)
                have e3 : xs 3 = .int .i64 k := (hJ.val 3 (hwt 3 (List.mem_of_elem_eq_true (by kernel_rfl)))).1 (by decide)
                rw [e2, e3]
                clear e2 e3
                have HJ := hid hJ
                have HD := hid hDk
                clear hDk hwt hJ
                go_wp2_with fail
                exact ⟨.pointer (some ⟨bl, off + k * 4, none⟩), by kernel_rfl, fun u hu => by obtain rfl := hu rfl; exact HJ.out.calm HD.out (by decide) (by decide) (TV.low (by decide) rfl)⟩
              · intro D xs w1 hDk hwt hJ
                have g0 := (hJ.old HS2.out hbl _).trans D0.out
                have g1 := (hJ.old HS2.out hbl _).trans D1.out
                have g2 := (hJ.old HS2.out hbl _).trans D2.out
                have g3 := (hJ.old HS2.out hbl _).trans D3.out
                have e4 : xs 4 = .pointer (some ⟨bl, off + k * 4, none⟩) := (hJ.val 4 (hwt 4 (List.mem_of_elem_eq_true (by kernel_rfl)))).1 (by decide)
                rw [e4]
                clear e4
                have HJ := hid hJ
                have HD := hid hDk
                clear hDk hwt hJ
                go_wp2_with fail
                exact ⟨.agg #[.int .i64 what, .int .i64 t, .int .u64 kk, .int .u64 yy], by kernel_rfl, fun u hu => by obtain rfl := hu rfl; exact HJ.out.calm HD.out (by decide) (by decide) (TV.low (by decide) rfl)⟩
              · intro D xs w1 hDk hwt hJ
                have e0 : xs 0 = .pointer (some ⟨b2, 0, none⟩) := (hJ.val 0 (hwt 0 (List.mem_of_elem_eq_true (by kernel_rfl)))).1 (by decide)
                have e1 : xs 1 = .agg #[.int .u64 r2.xk, .int .u64 r2.xb, .int .u64 r2.hk, .int .u64 r2.hb, .slice av2 r2.T.length cv2] := (hJ.val 1 (hwt 1 (List.mem_of_elem_eq_true (by kernel_rfl)))).1 (by decide)
                have e5 : xs 5 = .agg #[.int .i64 what, .int .i64 t, .int .u64 kk, .int .u64 yy] := (hJ.val 5 (hwt 5 (List.mem_of_elem_eq_true (by kernel_rfl)))).1 (by decide)
                rw [e0, e1, e5]
                clear e0 e1 e5
                have hP0 := hJ.pu
                rw [hDk] at hP0
                have HP0 : Hid (PurseAt w1 b2 m2 s2) := hid hP0
                have HW1 := hid (hwt 1 (List.mem_of_elem_eq_true (by kernel_rfl)))
                clear hP0
                have HJ := hid hJ
                have HD := hid hDk
                clear hDk hwt hJ
                go_wp2_with (go_at_call 15; refine (HQ.out _ _ HP0.out HJ.out.tk).mono ?_; rintro e w2 ⟨v', rfl, hP2, hT2, hM2⟩)
                exact ⟨_, by kernel_rfl, fun u hu => by obtain rfl := hu rfl; exact HJ.out.call HD.out HW1.out hP2 hT2 hM2⟩
              · intro D xs w1 hDk hwt hJ
                obtain ⟨v', e6, hT6⟩ : ∃ v', xs 6 = .tuple #[.agg #[.int .u64 rB.xk, .int .u64 rB.xb, .int .u64 rB.hk, .int .u64 rB.hb, v'], .bool true] ∧ TkAt w1 v' rB.T := (hJ.val 6 (hwt 6 (List.mem_of_elem_eq_true (by kernel_rfl)))).2.1 (by decide)
                rw [e6]
                clear e6
                have HJ := hid hJ
                have HD := hid hDk
                clear hDk hwt hJ
                go_wp2_with fail
                exact ⟨_, by kernel_rfl, fun u hu => by obtain rfl := hu rfl; exact HJ.out.calm HD.out (by decide) (by decide) (TV.mid (.inr rfl) hT6)⟩
              · intro D xs w1 hDk hwt hJ
                obtain ⟨v', e6, hT6⟩ : ∃ v', xs 7 = .tuple #[.agg #[.int .u64 rB.xk, .int .u64 rB.xb, .int .u64 rB.hk, .int .u64 rB.hb, v'], .bool true] ∧ TkAt w1 v' rB.T := (hJ.val 7 (hwt 7 (List.mem_of_elem_eq_true (by kernel_rfl)))).2.1 (by decide)
                rw [e6]
                clear e6
                have HJ := hid hJ
                have HD := hid hDk
                clear hDk hwt hJ
                go_wp2_with fail
                exact ⟨_, by kernel_rfl, fun u hu => by obtain rfl := hu rfl; exact HJ.out.calm HD.out (by decide) (by decide) (TV.fst hT6)⟩
              · intro D xs w1 hDk hwt hJ
                obtain ⟨v', e6, hT6⟩ : ∃ v', xs 7 = .tuple #[.agg #[.int .u64 rB.xk, .int .u64 rB.xb, .int .u64 rB.hk, .int .u64 rB.hb, v'], .bool true] ∧ TkAt w1 v' rB.T := (hJ.val 7 (hwt 7 (List.mem_of_elem_eq_true (by kernel_rfl)))).2.1 (by decide)
                rw [e6]
                clear e6
                have HJ := hid hJ
                have HD := hid hDk
                clear hDk hwt hJ
                go_wp2_with fail
                exact ⟨_, by kernel_rfl, fun u hu => by obtain rfl := hu rfl; exact HJ.out.calm HD.out (by decide) (by decide) (TV.snd)⟩
              · intro D xs w1 hDk hwt hJ
                obtain ⟨v', e8, hT8⟩ := (hJ.val 8 (hwt 8 (List.mem_of_elem_eq_true (by kernel_rfl)))).2.2.1 rfl
                have e8' : xs 8 = _ := e8
                have g6 := hJ.mbox
                have hD11 : D 10 = false := hDk
                rw [show D (6 + 4) = false from hD11] at g6
                rw [e8']
                obtain ⟨av', cv', rfl, _⟩ := hT8.form
                simp only [cond_false] at g6
                have z0 := cell_of g6 0
                have z1 := cell_of g6 1
                have z2 := cell_of g6 2
                have z3 := cell_of g6 3
                have z4 := cell_of g6 4
                have zf := free_of g6
                have zl := lt_of_block g6
                have H8 := hid e8
                have HW8 := hid (hwt 8 (List.mem_of_elem_eq_true (by kernel_rfl)))
                have HWc := hid (hwt 6 (List.mem_of_elem_eq_true (by kernel_rfl)))
                clear e8 e8' hT8 g6 hD11
                have HJ := hid hJ
                have HD := hid hDk
                clear hDk hwt hJ
                go_wp2_with fail
                exact ⟨undef, by kernel_rfl, fun u _ => HJ.out.store HD.out HWc.out HW8.out H8.out rfl⟩
            case hend =>
              intro D xs w1 hD hJ
              obtain ⟨v', hT8, e9, hbx, hP8, hM8⟩ := hJ.done hD
              have e9' : xs 9 = _ := e9
              dsimp only [List.take, List.drop, dsts, fill]
              rw [e9']
              clear hD hJ e9 e9'
              have HC2 := hid (HS2.out.behind hP8 hbx hT8 hM8)
              have HC1 := hid (HS.out.apart HS2.out hM8 HAP.out.one HAP.out.two HAP.out.three)
              have hq2 := HLB.out
              obtain ⟨av3, cv3, rfl, _⟩ := hT8.form
              clear hT8 hbx hP8 hM8
              have mx1 := HC1.out.mbox
              have y0 := cell_of mx1 0
              have y1 := cell_of mx1 1
              have y2 := cell_of mx1 2
              have y3 := cell_of mx1 3
              have y4 := cell_of mx1 4
              clear mx1
              go_wp2_with fail
              refine (looks_at HC1.out.pu HI.out HG.out HC1.out.tk (by have := HG.out.last; omega)).mono ?_
              rintro e w8 ⟨rfl, hB⟩
              have HE1 := hid (HC1.out.keep hB)
              have HE2 := hid (HC2.out.keep hB)
              clear hB y0 y1 y2 y3 y4
              have mx2 := HE2.out.mbox
              have y0 := cell_of mx2 0
              have y1 := cell_of mx2 1
              have y2 := cell_of mx2 2
              have y3 := cell_of mx2 3
              have y4 := cell_of mx2 4
              clear mx2
              go_wp2_with fail
              refine (looks_at HE2.out.pu HIB.out HGB.out HE2.out.tk (by have := HGB.out.last; omega)).mono ?_
              rintro e w9 ⟨rfl, hB⟩
              have HF1 := hid (HE1.out.keep hB)
              have HF2 := hid (HE2.out.keep hB)
              clear hB y0 y1 y2 y3 y4
              go_wp2_with fail
              go_roundw
              case rel => exact ⟨k + 1, s, r, _, sB, rB, _, by omega, by go_num, HI.out, HG.out, by omega, HIB.out, HGB.out, by omega, HF1.out, HF2.out⟩
              case measure => simp [intOf]; omega
          · skip
            have hp1 := HL.out
            have hp2 := HL2.out
            have HSx := HS
            have HSy := HS2
            have mx1 := HSx.out.mbox
            have y0 := cell_of mx1 0
            have y1 := cell_of mx1 1
            have y2 := cell_of mx1 2
            have y3 := cell_of mx1 3
            have y4 := cell_of mx1 4
            clear mx1
            go_wp2_with fail
            refine (looks_at HSx.out.pu HI.out HG.out HSx.out.tk (by have := HG.out.last; omega)).mono ?_
            rintro e w8 ⟨rfl, hB⟩
            have HE1 := hid (HSx.out.keep hB)
            have HE2 := hid (HSy.out.keep hB)
            clear hB y0 y1 y2 y3 y4
            have mx2 := HE2.out.mbox
            have y0 := cell_of mx2 0
            have y1 := cell_of mx2 1
            have y2 := cell_of mx2 2
            have y3 := cell_of mx2 3
            have y4 := cell_of mx2 4
            clear mx2
            go_wp2_with fail
            refine (looks_at HE2.out.pu HI2.out HG2.out HE2.out.tk (by have := HG2.out.last; omega)).mono ?_
            rintro e w9 ⟨rfl, hB⟩
            have HF1 := hid (HE1.out.keep hB)
            have HF2 := hid (HE2.out.keep hB)
            clear hB y0 y1 y2 y3 y4
            have HM := hid HF1.out.mod
            go_wp2_with fail
            refine (awake_any _).mono ?_
            rintro e w10 ⟨rfl, hB⟩
            go_wp2_with fail
            go_ret
            exact ⟨rfl, mod_end (mod_bel HM.out hB)⟩
end Go.Proofs.Ytkdimkaladbnpaa
