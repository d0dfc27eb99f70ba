/- PurseTells: the walk. -/
import Derived.Test.YtkdimkaladbnpaaTellsJ
namespace Go.Proofs.Ytkdimkaladbnpaa
open Go.ChangeShapes Go.WideShapes Go.ChangeAt Go.RowKit Go.Burg
open Go.Burg.Purse

set_option maxHeartbeats 2000000 in
theorem tells_in (lk lb : Int) (a : Option Addr) (len cap : Nat) (ds : Nat → Int × Int × Int × Int) (w : World) (hD : DeedsAt w a len ds) (h1 : 0 ≤ lk) (h2 : lk ≤ big) (h3 : 0 ≤ lb) (h4 : lb ≤ big) (hlen : len ≤ 100) :
    Calls Try.prog 4 #[.agg #[.int .u64 lk, .int .u64 lb], .slice a len cap] w fun e w' => e = .returned (.bool true) ∧ Below w.heap.size w w' := by
  have HI := hid (Inv.new h1 h2 h3 h4)
  clear h1 h2 h3 h4
  go_enter Try.func4, Try.ntmps4
  go_wp2_with fail
  refine (new_at lk lb _).mono ?_
  rintro e w2 ⟨b, m, rfl, hP, hb1, hm1, hX⟩
  have hN2 := blk_below (heap_new w (.cells #[.int .u64 lk, .int .u64 lb] 24)) hX (by simp)
  have n0 := cell_of hN2 0
  have n1 := cell_of hN2 1
  have hM2 : Mod (fun i => w.heap.size ≤ i) w w2 := mod_bel ((Mod.refl _ _).alloc _) hX
  have hlt := lt_of_block hN2
  obtain ⟨lb2, lm2⟩ := hP.lt
  simp at hb1 hm1
  have HS : Hid (PS w b m w2.heap.size (St.new lk lb) #[.int .u64 lk, .int .u64 lb, .int .u64 0, .int .u64 0, .slice none 0 0] (.slice none 0 0) [] (w2.alloc (.cells #[.int .u64 lk, .int .u64 lb, .int .u64 0, .int .u64 0, .slice none 0 0] 39))) :=
    hid ⟨hP.alloc _, heap_new _ _, (TkAt.nil w2).alloc _, hM2.alloc _, by omega, by omega, by omega, by omega, by omega⟩
  clear hP hX hN2 hM2
  go_wp2_with fail
  generalize w2.alloc (.cells #[.int .u64 lk, .int .u64 lb, .int .u64 0, .int .u64 0, .slice none 0 0] 39) = W at *
  generalize w2.heap.size = mb at *
  clear n0 n1
  go_loopw [7] (fun iv wr => ∃ (k : Nat) (s : St) (r : RSt) (v : Value), k ≤ len ∧ iv = .int .i64 k ∧ Inv s ∧ Goes s r ∧ s.last ≤ k ∧ PS w b m mb s #[.int .u64 r.xk, .int .u64 r.xb, .int .u64 r.hk, .int .u64 r.hb, v] v r.T wr) (fun iv _ => len - (intOf iv).toNat)
  case atStart => exact ⟨0, St.new lk lb, ⟨lk, lb, 0, 0, []⟩, .slice none 0 0, Nat.zero_le _, rfl, HI.out, Goes.new lk lb, Int.le_refl _, HS.out⟩
  case round =>
    clear HS
    obtain ⟨k, s, r, v, hk, rfl, hi, hg, hl, hS⟩ := hrel
    obtain ⟨av, cv, rfl, _⟩ := hS.tk.form
    have hlT := hg.last
    have HG := hid hg
    have HI := hid hi
    have HL := hid hlT
    have a0 := cell_of hS.mbox 0
    have a1 := cell_of hS.mbox 1
    have a2 := cell_of hS.mbox 2
    have a3 := cell_of hS.mbox 3
    have a4 := cell_of hS.mbox 4
    by_cases hlt : k < len
    · obtain ⟨bl, off, ha, hbl, hall⟩ := hD (by omega)
      subst ha
      obtain ⟨⟨d0, d1, d2, d3⟩, hk0, hy0⟩ := hall k hlt
      generalize ds k = d at d0 d1 d2 d3 hk0 hy0
      obtain ⟨what, t, kk, yy⟩ := d
      simp only at d0 d1 d2 d3 hk0 hy0
      clear hall
      have g0 := (hS.old hbl _).trans d0
      have g1 := (hS.old hbl _).trans d1
      have g2 := (hS.old hbl _).trans d2
      have g3 := (hS.old hbl _).trans d3
      have HS := hid hS
      have D0 := hid d0
      have D1 := hid d1
      have D2 := hid d2
      have D3 := hid d3
      obtain ⟨r', hr'⟩ : ∃ r', r.act (what % 6) t kk yy = r' := ⟨_, rfl⟩
      obtain ⟨s', hs'⟩ : ∃ s', (s.act (what % 6) t kk yy).2.2 = s' := ⟨_, rfl⟩
      have hg' := hg.act hi hk0 hy0 (what % 6) t
      have hi' := hi.act hk0 hy0 (what % 6) t
      have hl' := (max_act hi (what % 6) t kk yy).2
      have HQ := hid (fun (w1 : World) (v : Value) (hP : PurseAt w1 b m s) (hT : TkAt w1 v r.T) => does_at hP hi (by omega) hg hT what t kk yy hk0 hy0)
      rw [hr', hs'] at HQ hg'
      rw [hs'] at hi' hl'
      have HG' := hid hg'
      have HI' := hid hi'
      have HL' := hid hl'
      clear hS hg hi hlT d0 d1 d2 d3 hD hr' hs' hg' hi' hl' hk0 hy0
      go_wp2_with fail
      refine wp_region_val 12 (TJ w b m mb s s' #[.int .u64 r.xk, .int .u64 r.xb, .int .u64 r.hk, .int .u64 r.hb, (.slice av r.T.length cv)] (.slice av r.T.length cv) r.T 6 (fun j => [(.pointer (some ⟨b, 0, none⟩)), .agg #[.int .u64 r.xk, .int .u64 r.xb, .int .u64 r.hk, .int .u64 r.hb, .slice av r.T.length cv], (.slice (some ⟨bl, off, none⟩) len cap), (.int .i64 k), (.pointer (some ⟨bl, off + k * 4, none⟩)), (.agg #[.int .i64 what, .int .i64 t, .int .u64 kk, .int .u64 yy])].getD j undef) r') (by kernel_rfl) (by kernel_rfl) (by kernel_rfl) ?h0 ?hs ?hend
      case h0 => exact TJ.start HS.out
      case hs =>
        dsimp only [List.take, AllOpsI, dsts, fill]
        refine ⟨?_, ?_, ?_, ?_, ?_, ?_, ?_, ?_, ?_, ?_, ?_, ?_⟩
        · intro D xs w1 hDk hwt hJ
          have HJ := hid hJ
          have HD := hid hDk
          clear hDk hwt hJ
          go_wp2_with fail
          exact ⟨.pointer (some ⟨b, 0, none⟩), by kernel_rfl, fun u hu => by obtain rfl := hu rfl; exact HJ.out.calm HD.out (by decide) (by decide) (by decide) (TV.low (by decide) rfl)⟩
        · intro D xs w1 hDk hwt hJ
          have a0 := cell_of hJ.ps.mbox 0
          have a1 := cell_of hJ.ps.mbox 1
          have a2 := cell_of hJ.ps.mbox 2
          have a3 := cell_of hJ.ps.mbox 3
          have a4 := cell_of hJ.ps.mbox 4
          have HJ := hid hJ
          have HD := hid hDk
          clear hDk hwt hJ
          go_wp2_with fail
          exact ⟨.agg #[.int .u64 r.xk, .int .u64 r.xb, .int .u64 r.hk, .int .u64 r.hb, .slice av r.T.length cv], by kernel_rfl, fun u hu => by obtain rfl := hu rfl; exact HJ.out.calm HD.out (by decide) (by decide) (by decide) (TV.low (by decide) rfl)⟩
        · intro D xs w1 hDk hwt hJ
          have HJ := hid hJ
          have HD := hid hDk
          clear hDk hwt hJ
          go_wp2_with fail
          exact ⟨.slice (some ⟨bl, off, none⟩) len cap, by kernel_rfl, fun u hu => by obtain rfl := hu rfl; exact HJ.out.calm HD.out (by decide) (by decide) (by decide) (TV.low (by decide) rfl)⟩
        · intro D xs w1 hDk hwt hJ
          have HJ := hid hJ
          have HD := hid hDk
          clear hDk hwt hJ
          go_wp2_with fail
          exact ⟨.int .i64 k, by kernel_rfl, fun u hu => by obtain rfl := hu rfl; exact HJ.out.calm HD.out (by decide) (by decide) (by decide) (TV.low (by decide) rfl)⟩
        · intro D xs w1 hDk hwt hJ
          have e2 : xs 2 = .slice (some ⟨bl, off, none⟩) len cap := (hJ.val 2 (hwt 2 (List.mem_of_elem_eq_true (by kernel_rfl)))).1 (by decide)
          have e3 : xs 3 = .int .i64 k := (hJ.val 3 (hwt 3 (List.mem_of_elem_eq_true (by kernel_rfl)))).1 (by decide)
          rw [e2, e3]
          clear e2 e3
          have HJ := hid hJ
          have HD := hid hDk
          clear hDk hwt hJ
          go_wp2_with fail
          exact ⟨.pointer (some ⟨bl, off + k * 4, none⟩), by kernel_rfl, fun u hu => by obtain rfl := hu rfl; exact HJ.out.calm HD.out (by decide) (by decide) (by decide) (TV.low (by decide) rfl)⟩
        · intro D xs w1 hDk hwt hJ
          have g0 := (hJ.ps.old hbl _).trans D0.out
          have g1 := (hJ.ps.old hbl _).trans D1.out
          have g2 := (hJ.ps.old hbl _).trans D2.out
          have g3 := (hJ.ps.old hbl _).trans D3.out
          have e4 : xs 4 = .pointer (some ⟨bl, off + k * 4, none⟩) := (hJ.val 4 (hwt 4 (List.mem_of_elem_eq_true (by kernel_rfl)))).1 (by decide)
          rw [e4]
          clear e4
          have HJ := hid hJ
          have HD := hid hDk
          clear hDk hwt hJ
          go_wp2_with fail
          exact ⟨.agg #[.int .i64 what, .int .i64 t, .int .u64 kk, .int .u64 yy], by kernel_rfl, fun u hu => by obtain rfl := hu rfl; exact HJ.out.calm HD.out (by decide) (by decide) (by decide) (TV.low (by decide) rfl)⟩
        · intro D xs w1 hDk hwt hJ
          have e0 : xs 0 = .pointer (some ⟨b, 0, none⟩) := (hJ.val 0 (hwt 0 (List.mem_of_elem_eq_true (by kernel_rfl)))).1 (by decide)
          have e1 : xs 1 = .agg #[.int .u64 r.xk, .int .u64 r.xb, .int .u64 r.hk, .int .u64 r.hb, .slice av r.T.length cv] := (hJ.val 1 (hwt 1 (List.mem_of_elem_eq_true (by kernel_rfl)))).1 (by decide)
          have e5 : xs 5 = .agg #[.int .i64 what, .int .i64 t, .int .u64 kk, .int .u64 yy] := (hJ.val 5 (hwt 5 (List.mem_of_elem_eq_true (by kernel_rfl)))).1 (by decide)
          rw [e0, e1, e5]
          clear e0 e1 e5
          have hS := hJ.ps
          rw [hDk] at hS
          have HS1 : Hid (PS w b m mb s #[.int .u64 r.xk, .int .u64 r.xb, .int .u64 r.hk, .int .u64 r.hb, (.slice av r.T.length cv)] (.slice av r.T.length cv) r.T w1) := hid hS
          clear hS
          have HJ := hid hJ
          have HD := hid hDk
          clear hDk hwt hJ
          go_wp2_with (go_at_call 15; refine (HQ.out _ _ HS1.out.pu HS1.out.tk).mono ?_; rintro e w2 ⟨v', rfl, hP2, hT2, hM2⟩)
          exact ⟨_, by kernel_rfl, fun u hu => by obtain rfl := hu rfl; exact HJ.out.call HD.out hP2 hT2 hM2⟩
        · intro D xs w1 hDk hwt hJ
          obtain ⟨v', e6, hT6⟩ : ∃ v', xs 6 = .tuple #[.agg #[.int .u64 r'.xk, .int .u64 r'.xb, .int .u64 r'.hk, .int .u64 r'.hb, v'], .bool true] ∧ TkAt w1 v' r'.T := (hJ.val 6 (hwt 6 (List.mem_of_elem_eq_true (by kernel_rfl)))).2.1 (by decide)
          rw [e6]
          clear e6
          have HJ := hid hJ
          have HD := hid hDk
          clear hDk hwt hJ
          go_wp2_with fail
          exact ⟨_, by kernel_rfl, fun u hu => by obtain rfl := hu rfl; exact HJ.out.calm HD.out (by decide) (by decide) (by decide) (TV.mid (.inr rfl) hT6)⟩
        · intro D xs w1 hDk hwt hJ
          obtain ⟨v', e6, hT6⟩ : ∃ v', xs 7 = .tuple #[.agg #[.int .u64 r'.xk, .int .u64 r'.xb, .int .u64 r'.hk, .int .u64 r'.hb, v'], .bool true] ∧ TkAt w1 v' r'.T := (hJ.val 7 (hwt 7 (List.mem_of_elem_eq_true (by kernel_rfl)))).2.1 (by decide)
          rw [e6]
          clear e6
          have HJ := hid hJ
          have HD := hid hDk
          clear hDk hwt hJ
          go_wp2_with fail
          exact ⟨_, by kernel_rfl, fun u hu => by obtain rfl := hu rfl; exact HJ.out.calm HD.out (by decide) (by decide) (by decide) (TV.fst hT6)⟩
        · intro D xs w1 hDk hwt hJ
          obtain ⟨v', e6, hT6⟩ : ∃ v', xs 7 = .tuple #[.agg #[.int .u64 r'.xk, .int .u64 r'.xb, .int .u64 r'.hk, .int .u64 r'.hb, v'], .bool true] ∧ TkAt w1 v' r'.T := (hJ.val 7 (hwt 7 (List.mem_of_elem_eq_true (by kernel_rfl)))).2.1 (by decide)
          rw [e6]
          clear e6
          have HJ := hid hJ
          have HD := hid hDk
          clear hDk hwt hJ
          go_wp2_with fail
          exact ⟨_, by kernel_rfl, fun u hu => by obtain rfl := hu rfl; exact HJ.out.calm HD.out (by decide) (by decide) (by decide) (TV.snd)⟩
        · intro D xs w1 hDk hwt hJ
          have HJ := hid hJ
          have HD := hid hDk
          clear hDk hwt hJ
          go_wp2_with fail
          exact ⟨_, by kernel_rfl, fun u hu => by obtain rfl := hu rfl; exact HJ.out.alloc HD.out⟩
        · intro D xs w1 hDk hwt hJ
          obtain ⟨v', e8, _⟩ := (hJ.val 8 (hwt 8 (List.mem_of_elem_eq_true (by kernel_rfl)))).2.2.1 rfl
          have e8' : xs 8 = _ := e8
          obtain ⟨nb, e10, g2, g3, g4, g5, g6⟩ := hJ.box (hwt 10 (List.mem_of_elem_eq_true (by kernel_rfl)))
          have e10' : xs 10 = _ := e10
          have hD11 : D 11 = false := hDk
          rw [show D (6 + 5) = false from hD11] at g6
          rw [e8', e10']
          obtain ⟨av', cv', rfl, _⟩ := TkAt.form (show TkAt w1 v' r'.T by assumption)
          have z0 := cell_of g6 0
          have z1 := cell_of g6 1
          have z2 := cell_of g6 2
          have z3 := cell_of g6 3
          have z4 := cell_of g6 4
          have zf := free_of g6
          have zl := lt_of_block g6
          have H8 := hid e8
          have H10 := hid e10
          have HW8 := hid (hwt 8 (List.mem_of_elem_eq_true (by kernel_rfl)))
          have HW10 := hid (hwt 10 (List.mem_of_elem_eq_true (by kernel_rfl)))
          simp only [cond_false] at z0 z1 z2 z3 z4 zf
          clear e8 e10 e8' e10' g2 g3 g4 g5 g6 hD11
          have HJ := hid hJ
          have HD := hid hDk
          clear hDk hwt hJ
          go_wp2_with fail
          exact ⟨undef, by kernel_rfl, fun u _ => HJ.out.store HD.out HW8.out HW10.out H10.out H8.out⟩
      case hend =>
        intro D xs w1 hD hJ
        obtain ⟨v', nb, e8, hT8, e9, e10, hn1, hn2, hn3, hnb, hPS⟩ := hJ.done hD
        have e8' : xs 8 = _ := e8
        have e9' : xs 9 = _ := e9
        have e10' : xs 10 = _ := e10
        dsimp only [List.take, List.drop, dsts, fill]
        rw [e8', e9', e10']
        clear hD hJ e8 e9 e10 e8' e9' e10'
        obtain ⟨av', cv', rfl, _⟩ := hT8.form
        have n0 := cell_of hnb 0
        have n1 := cell_of hnb 1
        have n2 := cell_of hnb 2
        have n3 := cell_of hnb 3
        have n4 := cell_of hnb 4
        have hm := hPS.mbox
        have mf := free_of hm
        have m0 := cell_of hm 0
        have m1 := cell_of hm 1
        have m2 := cell_of hm 2
        have m3 := cell_of hm 3
        have m4 := cell_of hm 4
        have hml := lt_of_block hm
        have HP5 := hid (((((hPS.swap hT8).set 0 (.int .u64 r'.xk)).set 1 (.int .u64 r'.xb)).set 2 (.int .u64 r'.hk)).set 3 (.int .u64 r'.hb) |>.set 4 (.slice av' r'.T.length cv'))
        have hmn : ¬ mb = nb := fun e => hn3 e.symm
        clear hm hPS hT8 hnb hn1 hn2 hn3
        go_wp2_with fail
        have hl2 := HG'.out.last
        have hl3 := HL'.out
        refine (looks_at HP5.out.pu HI'.out HG'.out HP5.out.tk (by omega)).mono ?_
        rintro e w4 ⟨rfl, hB⟩
        have HS4 := hid (HP5.out.keep hB)
        clear hB hl2 hl3
        go_wp2_with fail
        go_roundw
        case rel => exact ⟨k + 1, s', r', _, by omega, by go_num, HI'.out, HG'.out, (by have := HL'.out; omega), HS4.out⟩
        case measure => simp [intOf]; omega
    · obtain rfl : k = len := by omega
      have HS := hid hS
      clear hS hg hi hlT hD
      go_wp2_with fail
      refine (looks_at HS.out.pu HI.out HG.out HS.out.tk (by have := HL.out; omega)).mono ?_
      rintro e w4 ⟨rfl, hB⟩
      have HM := hid (mod_bel HS.out.mod hB)
      clear hB
      go_wp2_with fail
      refine (awake_any _).mono ?_
      rintro e w5 ⟨rfl, hB⟩
      go_wp2_with fail
      go_ret
      exact ⟨rfl, mod_end (mod_bel HM.out hB)⟩

theorem tells_any (lk lb : Int) (a : Option Addr) (len cap : Nat) (ds : Nat → Int × Int × Int × Int) (w : World) (hD : DeedsAt w a len ds) (h1 : 0 ≤ lk) (h2 : lk ≤ big) (h3 : 0 ≤ lb) (h4 : lb ≤ big) :
    Calls Try.prog 4 #[.agg #[.int .u64 lk, .int .u64 lb], .slice a len cap] w fun e w' => e = .returned (.bool true) ∧ Below w.heap.size w w' := by
  by_cases hlen : len ≤ 100
  · exact tells_in lk lb a len cap ds w hD h1 h2 h3 h4 hlen
  · have hl : 100 < len := by omega
    clear hD
    go_enter Try.func4, Try.ntmps4
    go_wp2_with fail
    refine (awake_any _).mono ?_
    rintro e w1 ⟨rfl, hB⟩
    go_wp2_with fail
    go_ret
    exact ⟨rfl, ((Below.refl _ _).alloc (Nat.le_refl _) _).trans (hB.mono (by simp))⟩
end Go.Proofs.Ytkdimkaladbnpaa
