/- LockEnds: the walk. -/
import Derived.Test.YtofkodfdgbjboaaLE2
import Derived.Deep.LoopGhost
namespace Go.Proofs.Ytofkodfdgbjboaa
open Go.ChangeShapes Go.WideShapes Go.ChangeAt Go.RowKit Go.Burg
open Go.Burg.Lk

theorem news4 (w : World) (H : Nat) (v1 v2 v3 v4 : Value) (T : TypeId) (h : w.heap[H]? = some (.cells #[v1, v2, v3, v4] T (0, 0))) : ∀ j u, [v1, v2, v3, v4][j]? = some u → w.cell? ((⟨H, 0, none⟩ : Addr).add j) = some u := by
  intro j u hj
  rcases j with _ | _ | _ | _ | j
  · simp at hj; subst hj; exact cell_of h 0
  · simp at hj; subst hj; exact cell_of h 1
  · simp at hj; subst hj; exact cell_of h 2
  · simp at hj; subst hj; exact cell_of h 3
  · simp at hj

/-- The deeds of the second part. -/
def ends (x y : RefK) (z : Wd) : List LDeed := [⟨0, x, w0⟩, ⟨0, y, w0⟩, ⟨0, x, w0⟩, ⟨3, x, w0⟩, ⟨3, y, w0⟩, ⟨7, x, w0⟩, ⟨5, y, w0⟩, ⟨1, x, w0⟩, ⟨4, x, w0⟩, ⟨2, y, z⟩, ⟨3, y, w0⟩, ⟨6, y, w0⟩, ⟨5, y, w0⟩, ⟨1, y, w0⟩, ⟨0, y, w0⟩]
theorem slots_at (j : Nat) (h : j < 6) : ∃ s : Int, (#[.int .i64 (-9223372036854775808), .int .i64 (-1), .int .i64 0, .int .i64 4095, .int .i64 4096, .int .i64 9223372036854775807] : Array Value)[j]? = some (.int .i64 s) ∧ (Lit.int .i64 s).wf = true := by
  rcases j with _ | _ | _ | _ | _ | _ | j
  · exact ⟨_, rfl, by decide⟩
  · exact ⟨_, rfl, by decide⟩
  · exact ⟨_, rfl, by decide⟩
  · exact ⟨_, rfl, by decide⟩
  · exact ⟨_, rfl, by decide⟩
  · exact ⟨_, rfl, by decide⟩
  · omega
theorem row_two {w : World} {base n size : Nat} {T : TypeId} {v : Value} {xs : List Value} (h : w.ownsRow base T size v n xs) : ∃ a cap, v = .slice a n cap ∧ (0 < n → ∃ g, a = some ⟨g, 0, none⟩ ∧ base ≤ g ∧ n ≤ cap) := by
  rcases h.2 with ⟨rfl, h0⟩ | ⟨g, cap, cur, rfl, hb, hg, h1, h2, _⟩
  · exact ⟨none, 0, by rw [h0], fun h => by omega⟩
  · exact ⟨_, cap, rfl, fun _ => ⟨g, rfl, hb, h1⟩⟩

set_option maxRecDepth 20000 in
set_option maxHeartbeats 4000000 in
theorem lockends_any (w : World) : Calls Try.prog 6 #[] w fun e w' => e = .returned (.bool true) ∧ Below w.heap.size w w' := by
  obtain ⟨it, hit, hzi, hszi, hbyi⟩ := info_parts (P := Try.prog) (e := 38) (z := .agg #[.int .i64 0, .int .i64 0, .int .u32 0, .int .u64 0]) (size := 4) (bytes := 32) (by kernel_rfl)
  have HIT := hid (And.intro hit (And.intro hzi (And.intro hszi hbyi)))
  clear hit hzi hszi hbyi
  go_enter Try.func6, Try.ntmps6
  go_wp2_with fail
  go_loopg [1] 16807 (fun g nv wr => ∃ n : Nat, g = 16807 - n ∧ n ≤ 16807 ∧ nv = .int .i64 n ∧ Below w.heap.size w wr)
  case atStart => exact ⟨0, rfl, by omega, rfl, Below.refl _ _⟩
  case round =>
    obtain ⟨n, rfl, hn, rfl, hB⟩ := hrel
    have HB := hid hB
    clear hB
    by_cases hlt : n < 16807
    · have hcond : decide ((n : Int) < 16807) = true := by simp; omega
      go_wp2_with fail
      go_loopg [2, 3, 4] 5 (fun g lv mv kv wx => ∃ (k M : Nat) (D : List LDeed), g = 5 - k ∧ k ≤ 5 ∧ kv = .int .i64 k ∧ mv = .int .i64 M ∧ M ≤ 16807 ∧ D.length = k ∧ wx.ownsRow w.heap.size 38 4 lv k (dcs D) ∧ Below w.heap.size w wx)
      case atStart => exact ⟨0, n, [], rfl, by omega, rfl, rfl, hn, rfl, World.ownsRow_nil _ _ _ _, HB.out⟩
      case round =>
        obtain ⟨k, M, D, rfl, hk, rfl, rfl, hM, hDl, hO, hBx⟩ := hrel
        have HBx := hid hBx
        have HOx := hid hO
        clear hBx hO
        by_cases hk5 : k < 5
        · have hcond2 : decide ((k : Int) < 5) = true := by simp; omega
          replace hDl := hid hDl
          go_wp2_with fail
          refine (one_any _).mono ?_
          rintro e w1 ⟨rfl, hb1⟩
          have hB1 := below_chain HBx.out hb1 HBx.out.size
          have hO1 : (w1.alloc (.cells #[.int .i64 ((M : Int) % 7), .int .i64 0, .int .u32 1, .int .u64 4] 38)).ownsRow w.heap.size 38 4 u2 k (dcs D) := World.ownsRow.alloc (World.ownsRow.kept HOx.out (grown_bel hb1) (Classical.em _)) _
          have hN1 := news4 _ _ _ _ _ _ _ (heap_new w1 (.cells #[.int .i64 ((M : Int) % 7), .int .i64 0, .int .u32 1, .int .u64 4] 38))
          have hgl : w.heap.size ≤ (w1.alloc (.cells #[.int .i64 ((M : Int) % 7), .int .i64 0, .int .u32 1, .int .u64 4] 38)).heap.size := Nat.le_trans hB1.size (by simp)
          have HO1 := hid hO1
          have HN1 := hid hN1
          have HB1 := hid hB1
          have HGL := hid hgl
          clear hb1 hB1 hO1 hN1 hgl HBx HOx
          go_wp2_with (at_builtin; go_loud (refine wpList_append_own_at _ rfl (.tmp 24) (.tmp 29) 22 rfl w.heap.size 38 it _ 4 32 Try.underlying22 HIT.out.1 HIT.out.2.1 HIT.out.2.2.1 HIT.out.2.2.2 rfl (by decide) u2 k (dcs D) rfl HO1.out ⟨w1.heap.size, 0, none⟩ 1 1 [.int .i64 ((M : Int) % 7), .int .i64 0, .int .u32 1, .int .u64 4] rfl rfl HN1.out (by simp [Value.oneCell']) (by simp [maxLen]; omega) (by omega) HGL.out ?_))
          intro v6 W6 hO6 hG6 _ _
          have hB6 : Below w.heap.size w W6 := (HB1.out.alloc HB1.out.size _).trans (below_row hG6 (fun k e => (World.ownsRow.lt HO1.out k e).1) HGL.out)
          have hO7 : W6.ownsRow w.heap.size 38 4 v6 (k + 1) (dcs (D ++ [⟨(M : Int) % 7, oneK, Wd.of 4⟩])) := by
            rw [dcs_app]
            exact hO6
          have HO7 := hid hO7
          have HB6 := hid hB6
          clear hO6 hO7 hB6 hG6 HO1 HN1 HB1 HGL
          go_wp2_with fail
          go_roundg (5 - (k + 1))
          case measure => omega
          case rel => exact ⟨k + 1, M / 7, D ++ [⟨(M : Int) % 7, oneK, Wd.of 4⟩], rfl, by omega, by go_num, congrArg (Value.int .i64) (by omega), by omega, by rw [List.length_append, hDl.out]; rfl, HO7.out, HB6.out⟩
        · obtain rfl : k = 5 := by omega
          obtain ⟨aD, cD, rfl, hfD⟩ := row_two HOx.out
          obtain ⟨gD, rfl, _, _⟩ := hfD (by omega)
          replace hDl := hid hDl
          go_wp2_with fail
          refine (one_any _).mono ?_
          rintro e w1 ⟨rfl, hb1⟩
          have hB1 := below_chain HBx.out hb1 HBx.out.size
          have hOD := World.ownsRow.alloc (World.ownsRow.kept HOx.out (grown_bel hb1) (Classical.em _)) (.cells #[.int .i64 (0), .int .i64 0, .int .u32 1, .int .u64 0] 38)
          have hsz1 := hB1.size
          have hO1 : (w1.alloc (.cells #[.int .i64 (0), .int .i64 0, .int .u32 1, .int .u64 0] 38)).ownsRow w.heap.size 38 4 (.slice (some ⟨w1.heap.size, 0, none⟩) 1 1) 1 [.int .i64 0, .int .i64 0, .int .u32 1, .int .u64 0] := World.ownsRow_lit w1 _ 1 hsz1 (by simp [maxLen]) rfl
          have hN1 := World.ownsRow.cells hOD (g := gD) rfl
          have hgl : w.heap.size ≤ (w1.alloc (.cells #[.int .i64 (0), .int .i64 0, .int .u32 1, .int .u64 0] 38)).heap.size := Nat.le_trans hB1.size (by simp)
          have HO1 := hid hO1
          have HN1 := hid hN1
          have HB1 := hid hB1
          have HGL := hid hgl
          clear hb1 hB1 hO1 hN1 hgl HBx HOx hOD hsz1
          go_wp2_with (at_builtin; go_loud (refine wpList_append_own_at _ rfl (.tmp 35) (.tmp 36) 22 rfl w.heap.size 38 it _ 4 32 Try.underlying22 HIT.out.1 HIT.out.2.1 HIT.out.2.2.1 HIT.out.2.2.2 rfl (by decide) (.slice (some ⟨w1.heap.size, 0, none⟩) 1 1) 1 [.int .i64 0, .int .i64 0, .int .u32 1, .int .u64 0] rfl HO1.out ⟨gD, 0, none⟩ 5 cD (dcs D) rfl (by rw [dcs_len, hDl.out]) HN1.out (dcs_one D) (by simp [maxLen]) (by omega) HGL.out ?_))
          intro v6 W6 hO6 hG6 _ _
          have hB6 : Below w.heap.size w W6 := (HB1.out.alloc HB1.out.size _).trans (below_row hG6 (fun k e => (World.ownsRow.lt HO1.out k e).1) HGL.out)
          have hO7 : W6.ownsRow w.heap.size 38 4 v6 6 (dcs (⟨0, oneK, Wd.of 0⟩ :: D)) := hO6
          obtain ⟨a7, c7, rfl, hf7⟩ := row_two hO7
          obtain ⟨g7, rfl, _, _⟩ := hf7 (by omega)
          have HD7 := hid (deeds_row hO7 (by rw [List.length_cons, hDl.out]))
          have HB6 := hid hB6
          clear hO6 hO7 hB6 hG6 HO1 HN1 HB1 HGL hf7 hfD
          go_wp2_with fail
          refine (lockdoes_any _ _ _ _ _ HD7.out).mono ?_
          rintro e w8 ⟨rfl, hb8⟩
          have HB8 := hid (below_chain HB6.out hb8 HB6.out.size)
          clear hb8 HB6 HD7
          go_wp2_with fail
          go_roundg (16807 - (n + 1))
          case measure => omega
          case rel => exact ⟨n + 1, rfl, by omega, by go_num, HB8.out⟩
    · obtain rfl : n = 16807 := by omega
      have hS := heap_new wr (.cells #[.int .i64 (-9223372036854775808), .int .i64 (-1), .int .i64 0, .int .i64 4095, .int .i64 4096, .int .i64 9223372036854775807] 3)
      have HS := hid hS
      have HB1 := hid (HB.out.alloc HB.out.size (.cells #[.int .i64 (-9223372036854775808), .int .i64 (-1), .int .i64 0, .int .i64 4095, .int .i64 4096, .int .i64 9223372036854775807] 3))
      clear hS HB
      go_wp2_with fail
      generalize wr.alloc (.cells #[.int .i64 (-9223372036854775808), .int .i64 (-1), .int .i64 0, .int .i64 4095, .int .i64 4096, .int .i64 9223372036854775807] 3) = W at *
      generalize wr.heap.size = q at *
      go_loopg [6] 36 (fun g iv wx => ∃ i : Nat, g = 36 - i ∧ i ≤ 36 ∧ iv = .int .i64 i ∧ Below w.heap.size w wx ∧ wx.heap[q]? = some (.cells #[.int .i64 (-9223372036854775808), .int .i64 (-1), .int .i64 0, .int .i64 4095, .int .i64 4096, .int .i64 9223372036854775807] 3))
      case atStart => exact ⟨0, rfl, by omega, rfl, HB1.out, HS.out⟩
      case round =>
        obtain ⟨i, rfl, hi, rfl, hB2, hS2⟩ := hrel
        have HB2 := hid hB2
        have HS2 := hid hS2
        clear hB2 hS2 HB1 HS
        by_cases hlt2 : i < 36
        · have hcond3 : decide ((i : Int) < 36) = true := by simp; omega
          obtain ⟨s, hs, hsw⟩ := slots_at (i % 6) (Nat.mod_lt _ (by decide))
          have hc := (cell_of HS2.out (i % 6)).trans hs
          go_wp2_with fail
          have hxw : (Lit.int .i64 (s, (i : Int) / 6).1).wf = true ∧ (Lit.int .u32 (s, (i : Int) / 6).2).wf = true := ⟨hsw, by simp only [Lit.wf, Bool.and_eq_true, decide_eq_true_eq]; show 0 ≤ (i : Int) / 6 ∧ (i : Int) / 6 ≤ 4294967295; omega⟩
          have hyw : (Lit.int .i64 (s, (i : Int) / 6 + 1).1).wf = true ∧ (Lit.int .u32 (s, (i : Int) / 6 + 1).2).wf = true := ⟨hsw, by simp only [Lit.wf, Bool.and_eq_true, decide_eq_true_eq]; show 0 ≤ (i : Int) / 6 + 1 ∧ (i : Int) / 6 + 1 ≤ 4294967295; omega⟩
          obtain ⟨x, hx⟩ : ∃ x : RefK, x.1 = (s, (i : Int) / 6) := ⟨⟨_, hxw⟩, rfl⟩
          obtain ⟨y, hy⟩ : ∃ y : RefK, y.1 = (s, (i : Int) / 6 + 1) := ⟨⟨_, hyw⟩, rfl⟩
          have kx := blk_alloc (o' := .cells #[.int .i64 s, .int .u32 ((i : Int) / 6 + 1)] 30) (heap_new wr (.cells #[.int .i64 s, .int .u32 ((i : Int) / 6)] 30))
          have ky := heap_new (wr.alloc (.cells #[.int .i64 s, .int .u32 ((i : Int) / 6)] 30)) (.cells #[.int .i64 s, .int .u32 ((i : Int) / 6 + 1)] 30)
          have hBW := (HB2.out.alloc HB2.out.size (.cells #[.int .i64 s, .int .u32 ((i : Int) / 6)] 30)).alloc (Nat.le_trans HB2.out.size (by simp)) (.cells #[.int .i64 s, .int .u32 ((i : Int) / 6 + 1)] 30)
          have hSW := blk_alloc (o' := .cells #[.int .i64 s, .int .u32 ((i : Int) / 6 + 1)] 30) (blk_alloc (o' := .cells #[.int .i64 s, .int .u32 ((i : Int) / 6)] 30) HS2.out)
          have e2 : (wr.alloc (.cells #[.int .i64 s, .int .u32 ((i : Int) / 6)] 30)).heap.size = wr.heap.size + 1 := by simp
          rw [e2] at ky
          have hx1 : s = x.1.1 := by rw [hx]
          have hx2 : (i : Int) / 6 = x.1.2 := by rw [hx]
          have hy1 : x.1.1 = y.1.1 := by rw [hx, hy]
          have KX := hid kx
          have KY := hid ky
          have HBW := hid hBW
          have HSW := hid hSW
          have HX := hid hx
          have HY := hid hy
          have lx := lt_of_block kx
          have ly := lt_of_block ky
          clear kx ky hBW hSW hx hy hxw hyw HB2 HS2 hc hs hsw hx1 hx2 hy1 e2
          generalize (wr.alloc (.cells #[.int .i64 s, .int .u32 ((i : Int) / 6)] 30)).alloc (.cells #[.int .i64 s, .int .u32 ((i : Int) / 6 + 1)] 30) = W2 at *
          generalize wr.heap.size = n7 at *
          refine wp_region_seqI 33 (Turn 32 (fun w1 => Below W2.heap.size W2 w1 ∧ w1.heap.size = W2.heap.size) (fun w1 => Below W2.heap.size W2 w1 ∧ w1.heap[W2.heap.size]? = some (.cells (dcs (ends x y (Wd.of (2 ^ i)))).toArray 38))) (by kernel_rfl) (by kernel_rfl) (by kernel_rfl) (Turn.start ⟨⟨rfl, rfl, rfl, Nat.le_refl _, fun _ _ => rfl⟩, rfl⟩) ?_
          dsimp only [List.take]
          iterate 32
            refine Seq.calm (a' := ?_) (by decide) ?_ ?_ ?_
            rotate_left
            ·
              intro w1 hw1
              have hBb : Below W2.heap.size W2 w1 := by rcases hw1 with h | h <;> exact h.1
              have k0 := blk_below KX.out hBb lx
              have k1 := blk_below KY.out hBb ly
              have x0 := cell_of k0 0
              have x1 := cell_of k0 1
              have y0 := cell_of k1 0
              have y1 := cell_of k1 1
              clear hw1 k0 k1 hBb
              go_wp2_with (fail)
              refine ⟨?_, id, id⟩
              exact rfl
            · kernel_rfl
          refine Seq.turn (a' := ?_) ?_ ?_ ?_
          rotate_left
          ·
            intro w1 hw1
            have HB1 := hid hw1.1
            have HZ := hid hw1.2
            clear hw1
            go_wp2_with fail
            rw [HZ.out]
            refine ⟨?_, HB1.out.alloc HB1.out.size _, ?_⟩
            rotate_left
            · rw [← HZ.out]
              refine (heap_new _ _).trans ?_
              simp [dcs, ends, LDeed.cells, HX.out, HY.out, w0, Wd.of]
            exact rfl
          · kernel_rfl
          iterate 0
            refine Seq.calm (a' := ?_) (by decide) ?_ ?_ ?_
            rotate_left
            ·
              intro w1 hw1
              have hBb : Below W2.heap.size W2 w1 := by rcases hw1 with h | h <;> exact h.1
              have k0 := blk_below KX.out hBb lx
              have k1 := blk_below KY.out hBb ly
              have x0 := cell_of k0 0
              have x1 := cell_of k0 1
              have y0 := cell_of k1 0
              have y1 := cell_of k1 1
              clear hw1 k0 k1 hBb
              go_wp2_with (fail)
              refine ⟨?_, id, id⟩
              exact rfl
            · kernel_rfl
          refine SeqI.nil ?_
          intro D w1 hD hI
          replace hI := hI.done (hD 32 (by omega))
          clear hD
          dsimp only [List.drop]
          obtain ⟨hB9, hC9⟩ := hI
          have HD9 : Hid (DeedsAt w1 (some ⟨W2.heap.size, 0, none⟩) 15 (fun j => (ends x y (Wd.of (2 ^ i))).getD j default)) := hid (by
            rcases deeds_lit hC9 rfl with h | h
            · exact deeds_row h rfl
            · exact absurd h (by show ¬ maxLen < 15; decide))
          have HB9 := hid (below_chain HBW.out hB9 HBW.out.size)
          have HS9 := hid (blk_below HSW.out hB9 (lt_of_block HSW.out))
          clear hB9 hC9 HBW HSW KX KY HX HY
          go_wp2_with fail
          refine (lockdoes_any _ _ _ _ _ HD9.out).mono ?_
          rintro e w8 ⟨rfl, hb8⟩
          have HB8 := hid (below_chain HB9.out hb8 HB9.out.size)
          have HS8 := hid (blk_below HS9.out hb8 (lt_of_block HS9.out))
          clear hb8 HB9 HS9 HD9
          go_wp2_with fail
          go_roundg (36 - (i + 1))
          case measure => omega
          case rel => exact ⟨i + 1, rfl, by omega, by go_num, HB8.out, HS8.out⟩
        · obtain rfl : i = 36 := by omega
          have hE := blk_alloc (o' := (.cells #[.pointer none, .pointer (some ⟨wr.heap.size, 0, none⟩)] 26)) (heap_new wr (LBlk none 0))
          have hP := heap_new (wr.alloc (LBlk none 0)) (.cells #[.pointer none, .pointer (some ⟨wr.heap.size, 0, none⟩)] 26)
          have e1 : (wr.alloc (LBlk none 0)).heap.size = wr.heap.size + 1 := by simp
          rw [e1] at hP
          have HE := hid hE
          have HP := hid hP
          have HBE := hid ((HB2.out.alloc HB2.out.size (LBlk none 0)).alloc (Nat.le_trans HB2.out.size (by simp)) (.cells #[.pointer none, .pointer (some ⟨wr.heap.size, 0, none⟩)] 26))
          clear hE hP e1 HB2 HS2
          go_wp2_with fail
          change Code.wp _ _ _ _ ((wr.alloc (LBlk none 0)).alloc (.cells #[.pointer none, .pointer (some ⟨wr.heap.size, 0, none⟩)] 26))
          generalize (wr.alloc (LBlk none 0)).alloc (.cells #[.pointer none, .pointer (some ⟨wr.heap.size, 0, none⟩)] 26) = W4 at *
          generalize wr.heap.size = q4 at *
          go_loopg [11] 2 (fun g iv wx => ∃ i : Nat, g = 2 - i ∧ i ≤ 2 ∧ iv = .int .i64 i ∧ Below w.heap.size w wx ∧ wx.heap[q4]? = some (LBlk none 0) ∧ wx.heap[q4 + 1]? = some (.cells #[.pointer none, .pointer (some ⟨q4, 0, none⟩)] 26))
          case atStart => exact ⟨0, rfl, by omega, rfl, HBE.out, HE.out, HP.out⟩
          case round =>
            obtain ⟨i, rfl, hi4, rfl, hB4, hE4, hP4⟩ := hrel
            have HB4 := hid hB4
            have HE4 := hid hE4
            have HP4 := hid hP4
            clear hB4 HBE HE HP
            by_cases hlt4 : i < 2
            · have hcond4 : decide ((i : Int) < 2) = true := by simp; omega
              obtain ⟨v, hv, hno⟩ : ∃ v, wr.cell? ⟨q4 + 1, i, none⟩ = some v ∧ NoLk v wr := by
                have hc := cell_of hP4 i
                have h01 : i = 0 ∨ i = 1 := by omega
                rcases h01 with h | h
                · rw [h] at hc ⊢
                  exact ⟨_, hc, NoLk.nil _⟩
                · rw [h] at hc ⊢
                  exact ⟨_, hc, NoLk.empty hE4⟩
              have HN := hid hno
              have hC : Below wr.heap.size wr wr := Below.refl _ _
              clear hE4 hP4 hno
              go_wp2_with (first | (go_at_call 9; refine (one_any _).mono ?_; rintro e w' ⟨rfl, hb⟩; replace hC := below_chain hC hb hC.size; clear hb) | (go_at_call 11; refine (no_begin (HN.out.keep hC) oneK).mono ?_; rintro e w' ⟨rfl, hb⟩; replace hC := below_chain hC hb hC.size; clear hb) | (go_at_call 10; refine (no_add (HN.out.keep hC) oneK).mono ?_; rintro e w' ⟨rfl, hb⟩; replace hC := below_chain hC hb hC.size; clear hb) | (go_at_call 23; refine (no_gone (HN.out.keep hC) oneK).mono ?_; rintro e w' ⟨rfl, hb⟩; replace hC := below_chain hC hb hC.size; clear hb) | (go_at_call 18; refine (no_check (HN.out.keep hC) oneK w0).mono ?_; rintro e w' ⟨rfl, hb⟩; replace hC := below_chain hC hb hC.size; clear hb) | (go_at_call 13; refine (no_lock (HN.out.keep hC) oneK w0).mono ?_; rintro e w' ⟨rfl, hb⟩; replace hC := below_chain hC hb hC.size; clear hb) | (go_at_call 14; refine (no_drop (HN.out.keep hC) oneK).mono ?_; rintro e w' ⟨rfl, hb⟩; replace hC := below_chain hC hb hC.size; clear hb) | (go_at_call 15; refine (no_done' (HN.out.keep hC) oneK).mono ?_; rintro e w' ⟨rfl, hb⟩; replace hC := below_chain hC hb hC.size; clear hb) | (go_at_call 16; refine (no_kill (HN.out.keep hC) oneK).mono ?_; rintro e w' ⟨rfl, hb⟩; replace hC := below_chain hC hb hC.size; clear hb) | (go_at_call 17; refine (no_held (HN.out.keep hC)).mono ?_; rintro e w' ⟨rfl, hb⟩; replace hC := below_chain hC hb hC.size; clear hb) | (go_at_call 19; refine (no_taken (HN.out.keep hC)).mono ?_; rintro e w' ⟨rfl, hb⟩; replace hC := below_chain hC hb hC.size; clear hb) | (go_at_call 24; refine (no_len (HN.out.keep hC)).mono ?_; rintro e w' ⟨rfl, hb⟩; replace hC := below_chain hC hb hC.size; clear hb) | (go_at_call 25; refine (no_copy (HN.out.keep hC)).mono ?_; rintro e w' ⟨rfl, hb⟩; replace hC := below_chain hC hb hC.size; clear hb))
              have HC := hid hC
              clear hC
              go_roundg (2 - (i + 1))
              case measure => omega
              case rel => exact ⟨i + 1, rfl, by omega, by go_num, below_chain HB4.out HC.out HB4.out.size, blk_below HE4.out HC.out (lt_of_block HE4.out), blk_below HP4.out HC.out (lt_of_block HP4.out)⟩
            · obtain rfl : i = 2 := by omega
              go_wp2_with fail
              refine (awake_any _).mono ?_
              rintro e w9 ⟨rfl, hb9⟩
              go_wp2_with fail
              go_ret
              exact ⟨rfl, below_chain HB4.out hb9 HB4.out.size⟩
end Go.Proofs.Ytofkodfdgbjboaa
