/- SlabNever: the walk. -/
import Derived.Test.YtmgiaedfonaefaaSlabNever3
import Derived.Deep.CutRange
import Derived.Deep.CutBlock
namespace Go.Proofs.Ytmgiaedfonaefaa
open Go.ChangeShapes Go.WideShapes Go.ChangeAt Go.RowKit Go.Burg
open Go.Burg.Never

/-- A slice of deeds that came in: what, n and x of each. -/
def DeedsAt (w : World) (a : Option Addr) (len : Nat) (ds : Nat → Int × Int × Int) : Prop :=
  0 < len → ∃ bl off, a = some ⟨bl, off, none⟩ ∧ bl < w.heap.size ∧ ∀ i, i < len → w.cell? ⟨bl, off + i * 5, none⟩ = some (.int .i64 (ds i).1) ∧ w.cell? ⟨bl, off + i * 5 + 1, none⟩ = some (.int .i64 (ds i).2.1) ∧
    w.cell? ⟨bl, off + i * 5 + 2, none⟩ = some (.int .i64 (ds i).2.2)

set_option maxRecDepth 100000 in
set_option maxHeartbeats 8000000 in
theorem never_in (s : Nat) (a : Option Addr) (len cap : Nat) (ds : Nat → Int × Int × Int) (w : World) (hD : DeedsAt w a len ds) (hs1 : 1 ≤ s) (hs2 : s ≤ 200) (hlen : len ≤ 200) :
    Calls Try.prog 4 #[.int .i64 s, .slice a len cap] w fun e w' => e = .returned (.bool true) ∧ Below w.heap.size w w' := by
  obtain ⟨it1, hit1, hz1, hsz1, hby1⟩ := info_parts (P := Try.prog) (e := 31) (z := .agg #[.int .i64 0, .int .u32 0]) (size := 2) (bytes := 16) (by kernel_rfl)
  obtain ⟨it2, hit2, hz2, hsz2, hby2⟩ := info_parts (P := Try.prog) (e := 4) (z := .bool false) (size := 1) (bytes := 1) (by kernel_rfl)
  obtain ⟨it3, hit3, hz3, hsz3, hby3⟩ := info_parts (P := Try.prog) (e := 3) (z := .int .i64 0) (size := 1) (bytes := 8) (by kernel_rfl)
  have HI1 := hid (And.intro hit1 (And.intro hz1 (And.intro hsz1 hby1)))
  have HI2 := hid (And.intro hit2 (And.intro hz2 (And.intro hsz2 hby2)))
  have HI3 := hid (And.intro hit3 (And.intro hz3 (And.intro hsz3 hby3)))
  clear hit1 hz1 hsz1 hby1 hit2 hz2 hsz2 hby2 hit3 hz3 hsz3 hby3
  go_enter Try.func4, Try.ntmps4
  go_wp2_with fail
  refine (awake_any _).mono ?_
  rintro e w1 ⟨rfl, hB⟩
  have hM1 : Mod (fun i => w.heap.size ≤ i) w w1 := Mod.ofBelow hB
  clear hB
  go_wp2_with fail
  refine (I.new_any s _ hs1 (by omega)).mono ?_
  rintro e w2 ⟨b, g, rfl, hb, hg, h2, hB⟩
  have hM2 := mod_bel hM1 hB
  have hb : w.heap.size ≤ b := Nat.le_trans hM1.size hb
  have hg : w.heap.size ≤ g := Nat.le_trans hM1.size hg
  clear hB hM1
  have HR : Hid (NRel w b g w2.heap.size s 0 (.slice none 0 0) (.slice none 0 0) (.slice none 0 0) (List.replicate s ⟨false, 0, 0⟩) [] w2) :=
    hid ⟨h2, Inv.new s, World.ownsRow_nil _ _ _ _, World.ownsRow_nil _ _ _ _, World.ownsRow_nil _ _ _ _, Nat.le_refl _, h2.blt, h2.glt, hM2, hb, hg⟩
  generalize w2.heap.size = base at HR
  generalize List.replicate s (⟨false, 0, 0⟩ : Cel Int) = l0 at HR
  clear h2 hM2
  go_wp2_with fail
  go_loopw [7, 8, 9, 10] (fun tv lv hv iv wr => ∃ (k : Nat) (l : List (Cel Int)) (T : List Ent), k ≤ len ∧ iv = .int .i64 k ∧ T.length ≤ k ∧ NRel w b g base s k tv lv hv l T wr) (fun _ _ _ iv _ => len - (intOf iv).toNat)
  case atStart => exact ⟨0, _, _, Nat.zero_le _, rfl, Nat.le_refl _, HR.out⟩
  case round =>
    clear HR
    obtain ⟨k, l, T, hk, rfl, hT, hR⟩ := hrel
    by_cases hlt : k < len
    · obtain ⟨bl, off, ha, hbl, hall⟩ := hD (by omega)
      subst ha
      obtain ⟨d0, d1, d2⟩ := hall k hlt
      generalize ds k = d at d0 d1 d2
      obtain ⟨wh, nn, xx⟩ := d
      simp only at d0 d1 d2
      have hcell : ∀ j, wr.cell? ⟨bl, j, none⟩ = w.cell? ⟨bl, j, none⟩ := fun j => World.cell?_of_block (w := w) (hR.mod.block bl hbl (by omega))
      have g0 := (hcell _).trans d0
      have g1 := (hcell _).trans d1
      have g2 := (hcell _).trans d2
      have HT := hid hR
      have hTl : T.length ≤ 200 := by omega
      have D2 := hid d2
      clear hcell d0 d1 d2 hall hD
      go_upto_region 14 with fail
      go_cut [11] from 38 to 213 (fun nv wx => ∃ p : Nat, nv = .int .i64 p ∧ (T.length = 0 ∨ p < T.length) ∧ wx = wr)
      case first =>
        as_aux_lemma =>
          have hTold := hR.told.2
          clear hR
          by_cases hz : T.length = 0
          · rw [hz] at hTold
            rcases hTold with ⟨rfl, h0⟩ | ⟨gt, capt, curt, rfl, _, _, _, _, _, _⟩
            all_goals
              go_wp2_with (go_at_call 9; refine (pick_any nn 1 0 _ (by omega) (by omega) (by omega)).mono ?_; rintro e w3 ⟨rfl, rfl⟩)
              go_meet
              exact ⟨0, rfl, .inl hz, rfl⟩
          · rcases hTold with ⟨rfl, h0⟩ | ⟨gt, capt, curt, rfl, _, _, _, _, _, _⟩
            · exact absurd h0 hz
            · obtain ⟨p, hp⟩ : ∃ p : Nat, nn % (T.length : Int) = p := ⟨(nn % (T.length : Int)).toNat, by have := Int.emod_nonneg nn (b := (T.length : Int)) (by omega); omega⟩
              have hpl : p < T.length := by have := Int.emod_lt_of_pos nn (b := (T.length : Int)) (by omega); omega
              have HP := hid hp
              clear hp
              go_wp2_with (go_at_call 9; refine (pick_any nn T.length p _ (by omega) (by omega) HP.out).mono ?_; rintro e w3 ⟨rfl, rfl⟩)
              all_goals
                go_meet
                exact ⟨p, rfl, .inr hpl, rfl⟩
      case rest =>
        obtain ⟨p, rfl, hpT, rfl⟩ := hcut
        clear hR
        obtain ⟨q, hq⟩ : ∃ q : Int, wh % 3 = q := ⟨_, rfl⟩
        have hq0 : 0 ≤ q := by omega
        have hq3 : q < 3 := by omega
        have HQ := hid hq
        clear hq
        obtain ⟨a7, c7, rfl, f7⟩ := row_form HT.out.told
        obtain ⟨a8, c8, rfl, f8⟩ := row_form HT.out.lives
        obtain ⟨a9, c9, rfl, f9⟩ := row_form HT.out.has
        have F7 := hid f7
        have F8 := hid f8
        have F9 := hid f9
        clear f7 f8 f9
        obtain ⟨r, hr⟩ : ∃ r : Bool, decide (0 < q ∨ T.length = 0) = r := ⟨_, rfl⟩
        have HRR := hid hr
        clear hr
        go_upto_block 2 with fail
        go_cut [7, 8, 9, 12, 13, 14] from 38 to 213 (fun tv lv hv _ _ _ wx => ∃ (l : List (Cel Int)) (T : List Ent), T.length ≤ k + 1 ∧ NRel w b g base s (k + 1) tv lv hv l T wx)
        case first =>
          go_upto_region 18 with fail
          go_cut [78] from 38 to 213 (fun tv wx => tv = .bool r ∧ wx = wc)
          case first =>
            as_aux_lemma =>
              by_cases hq1 : 0 < q
              · go_wp2_with (go_at_call 9; refine (pick_any wh 3 q _ (by omega) (by omega) HQ.out).mono ?_; rintro e w3 ⟨rfl, rfl⟩)
                go_meet
                exact ⟨by rw [← HRR.out]; simp [hq1], rfl⟩
              · obtain rfl : q = 0 := by omega
                by_cases hz : T.length = 0
                · have HZ := hid hz
                  have hz' : ((T.length : Int) == 0) = true := by simp [hz]
                  clear hz
                  go_wp2_with (go_at_call 9; refine (pick_any wh 3 0 _ (by omega) (by omega) HQ.out).mono ?_; rintro e w3 ⟨rfl, rfl⟩)
                  go_meet
                  exact ⟨by rw [← HRR.out]; simp [HZ.out], rfl⟩
                · have hz' : ((T.length : Int) == 0) = false := by simpa using hz
                  have HZ := hid hz
                  clear hz
                  go_wp2_with (go_at_call 9; refine (pick_any wh 3 0 _ (by omega) (by omega) HQ.out).mono ?_; rintro e w3 ⟨rfl, rfl⟩)
                  go_meet
                  exact ⟨by rw [← HRR.out]; simp [HZ.out], rfl⟩
          case rest =>
            obtain ⟨rfl, rfl⟩ := hcut
            cases r
            · have hpl : p < T.length := by
                have := HRR.out
                simp at this
                rcases hpT with h | h
                · exact absurd (List.length_eq_zero_iff.1 h) this.2
                · exact h
              obtain ⟨t, ht⟩ : ∃ t, T[p]? = some t := ⟨T[p], by simp [hpl]⟩
              obtain ⟨g7, rfl, h71, h72⟩ := F7.out (by omega)
              obtain ⟨g8, rfl, h81, h82⟩ := F8.out (by omega)
              obtain ⟨g9, rfl, h91, h92⟩ := F9.out (by omega)
              unfold maxLen at h72 h82 h92
              have Ht := hid ht
              clear ht
              by_cases hx : xx.tmod 2 = 0
              · as_aux_lemma =>
                  have hx' : (xx.tmod 2 == 0) = true := by simp [hx]
                  have HX := hid hx
                  clear hx
                  obtain ⟨l', hinv, hcall⟩ := free_at (b := b) (g := g) HT.out.inv Ht.out
                  have HI := hid hinv
                  have HC := hid hcall
                  clear hinv hcall
                  obtain ⟨ts, tg, tl, tv⟩ := t
                  simp only at HI HC
                  cases tl
                  all_goals
                    go_wp2_with fail
                    refine wp_region_seqI 12 (Turn 5 (fun w1 => Below (wc).heap.size (wc) w1) (fun w1 => SlabAt (fun x : Int => (.int .i64 x)) 69 66 w1 b g l' ∧ Mod (· = g) (wc) w1)) (by kernel_rfl) (by kernel_rfl) (by kernel_rfl) (Turn.start ⟨rfl, rfl, rfl, Nat.le_refl _, fun _ _ => rfl⟩) ?_
                    dsimp only [List.take]
                    iterate 5
                      refine Seq.calm (a' := ?_) (by decide) ?_ ?_ ?_
                      rotate_left
                      ·
                        intro w1 hw1
                        have hM : Mod (· = g) (wc) w1 := by rcases hw1 with h | h; exact Mod.ofBelow h; exact h.2
                        clear hw1
                        obtain ⟨q1, q2, q3, q4, q5, q6⟩ := HT.out.cells Ht.out hM
                        simp only at q1 q2 q3 q4
                        have q7 := (HT.out.r3.old_mod hM hbl _).trans g2
                        clear hM q4 q5 q6
                        go_wp2_with (fail)
                        refine ⟨?_, id, id⟩
                        exact rfl
                      · kernel_rfl
                    refine Seq.turn (a' := ?_) ?_ ?_ ?_
                    rotate_left
                    ·
                      intro w1 hw1
                      have h0 := HT.out.sa.keep hw1
                      have hM : Mod (· = g) (wc) w1 := Mod.ofBelow hw1
                      clear hw1
                      go_wp2_with (go_at_call 12; refine (HC.out _ h0).mono ?_; rintro e w2 ⟨rfl, h2, hM2⟩)
                      refine ⟨?_, h2, hM.trans hM2 (fun _ _ h => h)⟩
                      exact rfl
                    · kernel_rfl
                    iterate 6
                      refine Seq.calm (a' := ?_) (by decide) ?_ ?_ ?_
                      rotate_left
                      ·
                        intro w1 hw1
                        have hM : Mod (· = g) (wc) w1 := by rcases hw1 with h | h; exact Mod.ofBelow h; exact h.2
                        clear hw1
                        obtain ⟨q1, q2, q3, q4, q5, q6⟩ := HT.out.cells Ht.out hM
                        simp only at q1 q2 q3 q4
                        have q7 := (HT.out.r3.old_mod hM hbl _).trans g2
                        clear hM q4 q5 q6
                        go_wp2_with (fail)
                        refine ⟨?_, id, id⟩
                        exact rfl
                      · kernel_rfl
                    refine SeqI.nil ?_
                    intro D w1 hD hI
                    replace hI := hI.done (hD 5 (by omega))
                    clear hD
                    dsimp only [List.drop]
                    obtain ⟨q1, q2, q3, q4, q5, q6⟩ := HT.out.cells Ht.out hI.2
                    simp only at q1 q2 q3 q4
                    go_wp2_with fail
                    go_meet
                    exact ⟨l', _, by simp; omega, R3.set_live (((HT.out.r3.turn hI.2 hI.1).put_l p (.bool false))) Ht.out (HI.out.mono (by omega))⟩
              · as_aux_lemma =>
                  have hx' : (xx.tmod 2 == 0) = false := by simpa using hx
                  have HX := hid hx
                  clear hx
                  obtain ⟨l', hinv, hcall⟩ := set_at (b := b) (g := g) xx HT.out.inv Ht.out
                  have HI := hid hinv
                  have HC := hid hcall
                  clear hinv hcall
                  obtain ⟨ts, tg, tl, tv⟩ := t
                  simp only at HI HC
                  cases tl
                  all_goals
                    go_wp2_with fail
                    refine wp_region_seqI 17 (Turn 10 (fun w1 => Below (wc).heap.size (wc) w1) (fun w1 => SlabAt (fun x : Int => (.int .i64 x)) 69 66 w1 b g l' ∧ Mod (· = g) (wc) w1)) (by kernel_rfl) (by kernel_rfl) (by kernel_rfl) (Turn.start ⟨rfl, rfl, rfl, Nat.le_refl _, fun _ _ => rfl⟩) ?_
                    dsimp only [List.take]
                    iterate 10
                      refine Seq.calm (a' := ?_) (by decide) ?_ ?_ ?_
                      rotate_left
                      ·
                        intro w1 hw1
                        have hM : Mod (· = g) (wc) w1 := by rcases hw1 with h | h; exact Mod.ofBelow h; exact h.2
                        clear hw1
                        obtain ⟨q1, q2, q3, q4, q5, q6⟩ := HT.out.cells Ht.out hM
                        simp only at q1 q2 q3 q4
                        have q7 := (HT.out.r3.old_mod hM hbl _).trans g2
                        clear hM q4 q5 q6
                        go_wp2_with (fail)
                        refine ⟨?_, id, id⟩
                        exact rfl
                      · kernel_rfl
                    refine Seq.turn (a' := ?_) ?_ ?_ ?_
                    rotate_left
                    ·
                      intro w1 hw1
                      have h0 := HT.out.sa.keep hw1
                      have hM : Mod (· = g) (wc) w1 := Mod.ofBelow hw1
                      clear hw1
                      go_wp2_with (go_at_call 16; refine (HC.out _ h0).mono ?_; rintro e w2 ⟨rfl, h2, hM2⟩)
                      refine ⟨?_, h2, hM.trans hM2 (fun _ _ h => h)⟩
                      exact rfl
                    · kernel_rfl
                    iterate 6
                      refine Seq.calm (a' := ?_) (by decide) ?_ ?_ ?_
                      rotate_left
                      ·
                        intro w1 hw1
                        have hM : Mod (· = g) (wc) w1 := by rcases hw1 with h | h; exact Mod.ofBelow h; exact h.2
                        clear hw1
                        obtain ⟨q1, q2, q3, q4, q5, q6⟩ := HT.out.cells Ht.out hM
                        simp only at q1 q2 q3 q4
                        have q7 := (HT.out.r3.old_mod hM hbl _).trans g2
                        clear hM q4 q5 q6
                        go_wp2_with (fail)
                        refine ⟨?_, id, id⟩
                        exact rfl
                      · kernel_rfl
                    refine SeqI.nil ?_
                    intro D w1 hD hI
                    replace hI := hI.done (hD 10 (by omega))
                    clear hD
                    dsimp only [List.drop]
                    obtain ⟨q1, q2, q3, q4, q5, q6⟩ := HT.out.cells Ht.out hI.2
                    simp only at q1 q2 q3 q4
                    have g2 := (HT.out.r3.old_mod hI.2 hbl _).trans g2
                    go_wp2_with fail
                    go_meet
                    exact ⟨l', _, by simp; omega, R3.set_val (((HT.out.r3.turn hI.2 hI.1).put_h p (.int .i64 xx))) Ht.out (HI.out.mono (by omega))⟩
            · rcases take_at (b := b) (g := g) xx HT.out.inv (by omega) with ⟨hcn, hcall⟩ | ⟨kk, ge, l', hlt', hfresh, hinv, hcall⟩
              · as_aux_lemma =>
                  have HC := hid hcn
                  have HK := hid hcall
                  clear hcn hcall
                  go_wp2_with fail
                  refine (HK.out _ HT.out.sa).mono ?_
                  rintro e w4 ⟨rfl, hB⟩
                  have hR4 := (HT.out.keep hB).r3.alloc (.cells #[.int .i64 0, .int .u32 0] 31)
                  have H4 := hid hR4
                  have HI := hid HT.out.inv
                  clear hR4 hB HT g0 g1 g2
                  go_wp2_with (go_at_call 15; refine (cnt_ent T _ s HC.out H4.out.lives hTl).mono ?_; rintro e w5 ⟨rfl, rfl⟩)
                  go_roundw
                  case rel => exact ⟨k + 1, l, T, by omega, by go_num, by omega, H4.out.rel (HI.out.mono (by omega))⟩
                  case measure => simp [intOf]; omega
              · as_aux_lemma =>
                  obtain ⟨cn, hcn⟩ : ∃ n : Nat, T.countP Ent.live = n := ⟨_, rfl⟩
                  rw [hcn] at hlt'
                  have HC := hid hcn
                  have HK := hid hcall
                  have HF := hid hfresh
                  have HI := hid hinv
                  clear hcn hcall hfresh hinv
                  go_wp2_with fail
                  refine (HK.out _ HT.out.sa).mono ?_
                  rintro e w4 ⟨rfl, h4, hX⟩
                  have hN := heap_new w4 (.cells #[.int .i64 (kk : Int), .int .u32 ge] 31)
                  have n0 := cell_of hN 0
                  have n1 := cell_of hN 1
                  have H5 := hid ((HT.out.r3.turn hX h4).alloc (.cells #[.int .i64 (kk : Int), .int .u32 ge] 31))
                  have HN := hid hN
                  clear h4 hX hN HT HK g0 g1 g2
                  go_wp2_with (go_at_call 15; refine (cnt_ent T _ cn HC.out H5.out.lives hTl).mono ?_; rintro e w5 ⟨rfl, rfl⟩)
                  clear n0 n1
                  go_loopw [14] (fun iv wr => ∃ j : Nat, j ≤ T.length ∧ iv = .int .i64 j ∧ Below (w4.alloc (.cells #[.int .i64 (kk : Int), .int .u32 ge] 31)).heap.size (w4.alloc (.cells #[.int .i64 (kk : Int), .int .u32 ge] 31)) wr) (fun iv _ => T.length - (intOf iv).toNat)
                  case atStart => exact ⟨0, Nat.zero_le _, rfl, Below.refl _ _⟩
                  case round =>
                    obtain ⟨j, hj, rfl, hB⟩ := hrel
                    have H6 := hid (H5.out.keep hB)
                    have hN6 := blk_below HN.out hB (by simp)
                    have n0 := cell_of hN6 0
                    have n1 := cell_of hN6 1
                    have hlw := lt_of_block hN6
                    have HB := hid hB
                    have HN6 := hid hN6
                    clear hB hN6
                    by_cases hlj : j < T.length
                    · obtain ⟨t, ht⟩ : ∃ t, T[j]? = some t := ⟨T[j], by simp [hlj]⟩
                      obtain ⟨g7, rfl, h71, h72⟩ := F7.out (by omega)
                      unfold maxLen at h72
                      have r0 := H6.out.told.cellAt (j * 2) (by omega)
                      have r1 := H6.out.told.cellAt (j * 2 + 1) (by omega)
                      rw [(toldOf_at ht).1] at r0
                      rw [(toldOf_at ht).2] at r1
                      have hne := HF.out t (List.mem_of_getElem? ht)
                      clear ht
                      obtain ⟨ts, tg, tl, tv⟩ := t
                      simp only at r0 r1 hne
                      by_cases e1 : ts = kk
                      · have e2 : ¬ tg = ge := fun h => hne ⟨e1, h⟩
                        subst e1
                        clear hne
                        go_wp2_with fail
                        go_quiet (fail)
                        go_wp2_with fail
                        go_roundw
                        case rel => exact ⟨j + 1, by omega, by go_num, below_drewN HB.out⟩
                        case measure => simp [intOf]; omega
                      · clear hne
                        have e1' : ¬ (ts : Int) = kk := by omega
                        go_wp2_with fail
                        go_quiet (fail)
                        go_wp2_with fail
                        go_roundw
                        case rel => exact ⟨j + 1, by omega, by go_num, below_drewN HB.out⟩
                        case measure => simp [intOf]; omega
                    · have hN2 := heap_new wr (.cells #[.int .i64 (kk : Int), .int .u32 ge] 31)
                      have m0 := cell_of hN2 0
                      have m1 := cell_of hN2 1
                      have H7 := hid (H6.out.alloc (.cells #[.int .i64 (kk : Int), .int .u32 ge] 31))
                      have HW := hid (news2 _ _ _ _ _ hN2)
                      have g2 := (H6.out.old hbl _).trans D2.out
                      clear hN2 m0 m1
                      go_wp2_with (at_builtin; go_loud (refine wpList_append_own _ rfl (.tmp 130) (.tmp 132) 28 rfl base 31 it1 _ 2 16 Try.underlying28 HI1.out.1 HI1.out.2.1 HI1.out.2.2.1 HI1.out.2.2.2 rfl (by decide) _ T.length (toldOf T) rfl H7.out.told ⟨wr.heap.size, 0, none⟩ 1 1 [.int .i64 kk, .int .u32 ge] rfl rfl HW.out (by simp [Value.oneCell']) (by simp [maxLen]; omega) (by omega) H7.out.ge ?_))
                      intro v7 w7 hO7 hgr7 _
                      have H8 := hid ((H7.out.grow_t hO7 hgr7).alloc (.cells #[.bool true] 4))
                      have HW8 := hid (news1 _ _ _ _ (heap_new w7 (.cells #[.bool true] 4)))
                      have hw7 := hgr7.size
                      clear hO7 hgr7 HW n0 n1
                      go_wp2_with (at_builtin; go_loud (refine wpList_append_own _ rfl (.tmp 134) (.tmp 135) 40 rfl base 4 it2 _ 1 1 Try.underlying40 HI2.out.1 HI2.out.2.1 HI2.out.2.2.1 HI2.out.2.2.2 rfl (by decide) _ T.length (livesOf T) rfl H8.out.lives ⟨w7.heap.size, 0, none⟩ 1 1 [.bool true] rfl rfl HW8.out (by simp [Value.oneCell']) (by simp [maxLen]; omega) (by omega) H8.out.ge ?_))
                      intro v8 w8 hO8 hgr8 _
                      have H9 := hid ((H8.out.grow_l hO8 hgr8).alloc (.cells #[.int .i64 xx] 3))
                      have HW9 := hid (news1 _ _ _ _ (heap_new w8 (.cells #[.int .i64 xx] 3)))
                      have g2 := ((H8.out.grow_l hO8 hgr8).old hbl _).trans D2.out
                      clear hO8 hgr8 HW8
                      go_wp2_with (at_builtin; go_loud (refine wpList_append_own _ rfl (.tmp 137) (.tmp 143) 41 rfl base 3 it3 _ 1 8 Try.underlying41 HI3.out.1 HI3.out.2.1 HI3.out.2.2.1 HI3.out.2.2.2 rfl (by decide) _ T.length (hasOf T) rfl H9.out.has ⟨w8.heap.size, 0, none⟩ 1 1 [.int .i64 xx] rfl rfl HW9.out (by simp [Value.oneCell']) (by simp [maxLen]; omega) (by omega) H9.out.ge ?_))
                      intro v9 w9 hO9 hgr9 _
                      have H10 := hid (R3.app (H9.out.grow_h hO9 hgr9) HI.out)
                      clear hO9 hgr9 HW9 g2
                      go_wp2_with fail
                      go_meet
                      exact ⟨l', _, by simp; omega, H10.out⟩
        case rest =>
          as_aux_lemma =>
            clear HT hTl hpT hT HRR F7 F8 F9 HQ g0 g1 g2
            obtain ⟨l, T, hT, hR⟩ := hcut
            obtain ⟨a7, c7, rfl, f7⟩ := row_form hR.told
            obtain ⟨a8, c8, rfl, f8⟩ := row_form hR.lives
            obtain ⟨a9, c9, rfl, f9⟩ := row_form hR.has
            have HT := hid hR
            have F7 := hid f7
            have F8 := hid f8
            have F9 := hid f9
            have hTl : T.length ≤ 201 := by omega
            clear f7 f8 f9 hR
            obtain ⟨wx, hwx⟩ : ∃ wx : World, wx = wc := ⟨_, rfl⟩
            subst hwx
            go_wp2_with fail
            go_loopw [15] (fun iv wr => ∃ j : Nat, j ≤ T.length ∧ iv = .int .i64 j ∧ Below wx.heap.size wx wr) (fun iv _ => T.length - (intOf iv).toNat)
            case atStart => exact ⟨0, Nat.zero_le _, rfl, Below.refl _ _⟩
            case round =>
              obtain ⟨j, hj, rfl, hB⟩ := hrel
              have H6 := hid (HT.out.keep hB)
              have HB := hid hB
              clear hB
              by_cases hlj : j < T.length
              · obtain ⟨t, ht⟩ : ∃ t, T[j]? = some t := ⟨T[j], by simp [hlj]⟩
                obtain ⟨g7, rfl, h71, h72⟩ := F7.out (by omega)
                obtain ⟨g8, rfl, h81, h82⟩ := F8.out (by omega)
                obtain ⟨g9, rfl, h91, h92⟩ := F9.out (by omega)
                unfold maxLen at h72 h82 h92
                have Ht := hid ht
                clear ht
                have HG := hid (get_step H6.out Ht.out)
                obtain ⟨q1, q2, q3, q4, q5, q6⟩ := H6.out.cells Ht.out (Mod.refl _ _)
                obtain ⟨ts, tg, tl, tv⟩ := t
                simp only at q1 q2 q3 q4 HG
                clear q3 q4 q5 q6
                cases tl
                all_goals
                  go_wp2_with fail
                  refine HG.out.mono ?_
                  rintro e w2 ⟨rfl, hB2⟩
                  obtain ⟨p1, p2, p3, p4, p5, p6⟩ := H6.out.cells Ht.out (Mod.ofBelow hB2)
                  simp only at p3 p4
                  clear q1 q2 p1 p2 p5 p6
                  have HB2 := hid (HB.out.trans (hB2.mono HB.out.size))
                  clear hB2
                  go_wp2_with fail
                  go_roundw
                  case rel => exact ⟨j + 1, by omega, by go_num, HB2.out⟩
                  case measure => simp [intOf]; omega
              · obtain ⟨nl, hnl⟩ : ∃ n : Nat, l.countP Cel.is = n := ⟨_, rfl⟩
                obtain ⟨nr, hnr⟩ : ∃ n : Nat, l.countP Cel.room = n := ⟨_, rfl⟩
                have hsum := H6.out.inv.sum (by omega)
                have hc := H6.out.inv.cnt
                rw [hnl, hnr] at hsum
                rw [hnl] at hc
                have hb1 : nl ≤ s := by omega
                have hb2 : nr ≤ s := by omega
                have hs2' : ((nl : Int) + (nr : Int) == (s : Int)) = true := by simp; omega
                have HL := hid (fun w h => len_at (b := b) (g := g) hnl w h)
                have HR := hid (fun w h => left_at (b := b) (g := g) hnr w h)
                have HCN := hid hc
                clear hnl hnr hc hsum
                go_wp2_with fail
                refine (HL.out _ H6.out.sa).mono ?_
                rintro e w5 ⟨rfl, hB5⟩
                have H7 := hid (H6.out.keep hB5)
                clear hB5
                go_wp2_with fail
                refine (cnt_ent T _ nl HCN.out H7.out.lives (by omega)).mono ?_
                rintro e w6 ⟨rfl, rfl⟩
                go_wp2_with fail
                refine (HL.out _ H7.out.sa).mono ?_
                rintro e w6 ⟨rfl, hB6⟩
                have H8 := hid (H7.out.keep hB6)
                clear hB6
                go_wp2_with fail
                refine (HR.out _ H8.out.sa).mono ?_
                rintro e w7 ⟨rfl, hB7⟩
                have H9 := hid (H8.out.keep hB7)
                clear hB7
                go_wp2_with fail
                go_roundw
                case rel => exact ⟨k + 1, l, T, by omega, by go_num, by omega, H9.out⟩
                case measure => simp [intOf]; omega
    · go_wp2_with fail
      go_ret
      exact ⟨rfl, mod_end hR.mod⟩
end Go.Proofs.Ytmgiaedfonaefaa
