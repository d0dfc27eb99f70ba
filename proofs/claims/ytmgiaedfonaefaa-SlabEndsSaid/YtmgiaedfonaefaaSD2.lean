/- does: one operation of SlabDoes. -/
import Derived.Test.YtmgiaedfonaefaaSD1
import Derived.Deep.DeepCutAuto
import Derived.Deep.CutRange
import Derived.Deep.CutBlock
namespace Go.Proofs.Ytmgiaedfonaefaa.C
open Go.ChangeShapes Go.WideShapes Go.ChangeAt Go.RowKit Go.Burg Go.Shelf
attribute [local go_sem] Oper.semAt_some


theorem live_or (l : List (Cel Int)) (xs xg : Int) : (∃ i c, I.Live l xs xg i c) ∨ ∀ i c, ¬ I.Live l xs xg i c := by
  by_cases h : ∃ i c, I.Live l xs xg i c
  · exact .inl h
  · exact .inr fun i c hc => h ⟨i, c, hc⟩

theorem get_both (l : List (Cel Int)) (xs xg : Int) : ∃ (v : Int) (is : Bool), (∀ (W : World) (b g cp : Nat), SlabC (fun x : Int => .int .i64 x) 69 66 W b g cp l → Calls Try.prog 13 #[.pointer (some ⟨b, 0, none⟩), .agg #[.int .i64 xs, .int .u32 xg]] W fun e W' => e = .returned (.tuple #[.int .i64 v, .bool is]) ∧ Below W.heap.size W W') ∧
    (∀ (W : World) (b g : Nat), SlabAt (fun x : Int => .int .i64 x) 82 79 W b g l → Calls Try.prog 35 #[.pointer (some ⟨b, 0, none⟩), .agg #[.int .i64 xs, .int .u32 xg]] W fun e W' => e = .returned (.tuple #[.int .i64 v, .bool is]) ∧ Below W.heap.size W W') := by
  rcases live_or l xs xg with ⟨i, c, hL⟩ | hD
  · exact ⟨_, _, fun W b g cp h => get_live xs xg W h hL, fun W b g h => R.get_live xs xg W h hL⟩
  · exact ⟨_, _, fun W b g cp h => get_dead xs xg W h hD, fun W b g h => R.get_dead xs xg W h hD⟩
theorem free_both (l : List (Cel Int)) (xs xg : Int) : ∃ (k : Int) (l' : List (Cel Int)), (∀ (W : World) (b g cp : Nat), SlabC (fun x : Int => .int .i64 x) 69 66 W b g cp l → Calls Try.prog 12 #[.pointer (some ⟨b, 0, none⟩), .agg #[.int .i64 xs, .int .u32 xg]] W fun e W' => e = .returned (.int .i64 k) ∧ SlabC (fun x : Int => .int .i64 x) 69 66 W' b g cp l' ∧ Mod (· = g) W W') ∧
    (∀ (W : World) (b g : Nat), SlabAt (fun x : Int => .int .i64 x) 82 79 W b g l → Calls Try.prog 36 #[.pointer (some ⟨b, 0, none⟩), .agg #[.int .i64 xs, .int .u32 xg]] W fun e W' => e = .returned (.int .i64 k) ∧ SlabAt (fun x : Int => .int .i64 x) 82 79 W' b g l' ∧ Mod (· = g) W W') := by
  rcases live_or l xs xg with ⟨i, c, hL⟩ | hD
  · exact ⟨_, _, fun W b g cp h => free_live xs xg W h hL, fun W b g h => R.free_live xs xg W h hL⟩
  · exact ⟨_, l, fun W b g cp h => (free_dead xs xg W h hD).mono fun e W' k => ⟨k.1, h.keep k.2, Mod.ofBelow k.2⟩, fun W b g h => (R.free_dead xs xg W h hD).mono fun e W' k => ⟨k.1, h.keep k.2, Mod.ofBelow k.2⟩⟩
theorem set_both (l : List (Cel Int)) (xs xg x : Int) : ∃ (k : Int) (l' : List (Cel Int)), (∀ (W : World) (b g cp : Nat), SlabC (fun x : Int => .int .i64 x) 69 66 W b g cp l → Calls Try.prog 16 #[.pointer (some ⟨b, 0, none⟩), .agg #[.int .i64 xs, .int .u32 xg], .int .i64 x] W fun e W' => e = .returned (.int .i64 k) ∧ SlabC (fun x : Int => .int .i64 x) 69 66 W' b g cp l' ∧ Mod (· = g) W W') ∧
    (∀ (W : World) (b g : Nat), SlabAt (fun x : Int => .int .i64 x) 82 79 W b g l → Calls Try.prog 37 #[.pointer (some ⟨b, 0, none⟩), .agg #[.int .i64 xs, .int .u32 xg], .int .i64 x] W fun e W' => e = .returned (.int .i64 k) ∧ SlabAt (fun x : Int => .int .i64 x) 82 79 W' b g l' ∧ Mod (· = g) W W') := by
  rcases live_or l xs xg with ⟨i, c, hL⟩ | hD
  · exact ⟨_, _, fun W b g cp h => set_live xs xg x W h hL, fun W b g h => R.set_live xs xg x W h hL⟩
  · exact ⟨_, l, fun W b g cp h => (set_dead xs xg x W h hD).mono fun e W' k => ⟨k.1, h.keep k.2, Mod.ofBelow k.2⟩, fun W b g h => (R.set_dead xs xg x W h hD).mono fun e W' k => ⟨k.1, h.keep k.2, Mod.ofBelow k.2⟩⟩
theorem take_both (l : List (Cel Int)) (x : Int) : ∃ (ys yg k : Int) (l' : List (Cel Int)), (k = 0 ∨ k = 14) ∧ (∀ (W : World) (b g cp : Nat), SlabC (fun x : Int => .int .i64 x) 69 66 W b g cp l → Calls Try.prog 10 #[.pointer (some ⟨b, 0, none⟩), .int .i64 x] W fun e W' => e = .returned (.tuple #[.agg #[.int .i64 ys, .int .u32 yg], .int .i64 k]) ∧ SlabC (fun x : Int => .int .i64 x) 69 66 W' b g cp l' ∧ Mod (· = g) W W') ∧
    (∀ (W : World) (b g : Nat), SlabAt (fun x : Int => .int .i64 x) 82 79 W b g l → Calls Try.prog 39 #[.pointer (some ⟨b, 0, none⟩), .int .i64 x] W fun e W' => e = .returned (.tuple #[.agg #[.int .i64 ys, .int .u32 yg], .int .i64 k]) ∧ SlabAt (fun x : Int => .int .i64 x) 82 79 W' b g l' ∧ Mod (· = g) W W') := by
  rcases first_of l with hF | ⟨k, c, hF, hk, hr⟩
  · exact ⟨_, _, _, l, .inr rfl, fun W b g cp h => (take_no x W h hF).mono fun e W' k => ⟨k.1, h.keep k.2, Mod.ofBelow k.2⟩, fun W b g h => (R.take_no x W h hF).mono fun e W' k => ⟨k.1, h.keep k.2, Mod.ofBelow k.2⟩⟩
  · exact ⟨_, _, _, _, .inl rfl, fun W b g cp h => take_yes x W h hF hk hr, fun W b g h => R.take_yes x W h hF hk hr⟩

set_option maxRecDepth 100000 in
set_option maxHeartbeats 8000000 in
theorem does_any {w0 : World} {b g cp b2 g2 : Nat} {l : List (Cel Int)} {tv : Value} {T : List (Int × Int)} (what n x slot gen : Int) (w : World) (h : DR w0 b g cp b2 g2 l l tv T w) (hT : T.length < 300) :
    Calls Try.prog 18 #[.pointer (some ⟨b, 0, none⟩), .pointer (some ⟨b2, 0, none⟩), .agg #[.int .i64 what, .int .i64 n, .int .i64 x, .int .i64 slot, .int .u32 gen], tv] w fun e w' => ∃ b' g' cp' l' tv' T', e = .returned (.tuple #[.pointer (some ⟨b', 0, none⟩), tv', .bool true]) ∧ T'.length ≤ T.length + 1 ∧ DR w0 b' g' cp' b2 g2 l' l' tv' T' w' := by
  have hws := h.mod.size
  have hX : DX w0 b g cp b2 g2 l l tv T w.heap.size what n x slot gen slot gen (((w.alloc (.cells #[.pointer (some ⟨b, 0, none⟩)] 23)).alloc (.cells #[.int .i64 what, .int .i64 n, .int .i64 x, .int .i64 slot, .int .u32 gen] 43)).alloc (.cells #[.int .i64 slot, .int .u32 gen] 31)) := by
    refine ⟨((h.below ((Below.refl _ _).alloc (Nat.le_refl _) _)).below ((Below.refl _ _).alloc (Nat.le_refl _) _)).below ((Below.refl _ _).alloc (Nat.le_refl _) _), blk_alloc (blk_alloc (heap_new _ _)), blk_alloc ?_, ?_, hws, ?_⟩
    · have := heap_new (w.alloc (.cells #[.pointer (some ⟨b, 0, none⟩)] 23)) (.cells #[.int .i64 what, .int .i64 n, .int .i64 x, .int .i64 slot, .int .u32 gen] 43)
      simpa using this
    · have := heap_new ((w.alloc (.cells #[.pointer (some ⟨b, 0, none⟩)] 23)).alloc (.cells #[.int .i64 what, .int .i64 n, .int .i64 x, .int .i64 slot, .int .u32 gen] 43)) (.cells #[.int .i64 slot, .int .u32 gen] 31)
      simpa using this
    · rcases h.told.2 with ⟨rfl, _⟩ | ⟨gt, cap, cur, rfl, _, hg, _⟩
      · exact .inl rfl
      · refine .inr fun e => ?_
        have := lt_of_block hg
        simp only [Value.ownBlock, Option.some.injEq] at e
        omega
  have hTt := hid h.told
  have HH := hid h
  clear h
  refine (callsIn_wide (n := 8)).1 ?_
  refine callsIn_of_wp_marks Try.func18 rfl trivial ?_ rfl
  refine wpIn_wide.2 ?_
  simp only [Try.ntmps18, List.size_toArray, List.length_cons, List.length_nil, Nat.reduceAdd, Nat.reduceSub, Array.replicate_succ, Array.replicate_zero, List.push_toArray, List.append_toArray, List.nil_append, List.cons_append]
  go_upto_region 1 with fail
  go_cut [11] from 22 to 23 (fun v wx => v = .pointer (some ⟨w.heap.size + 2, 0, none⟩) ∧ wx = (((w.alloc (.cells #[.pointer (some ⟨b, 0, none⟩)] 23)).alloc (.cells #[.int .i64 what, .int .i64 n, .int .i64 x, .int .i64 slot, .int .u32 gen] 43)).alloc (.cells #[.int .i64 slot, .int .u32 gen] 31)))
  case first =>
    go_wp2_with fail
    go_meet
    exact ⟨rfl, rfl⟩
  case rest =>
  obtain ⟨rfl, rfl⟩ := hcut
  generalize hW : (((w.alloc (.cells #[.pointer (some ⟨b, 0, none⟩)] 23)).alloc (.cells #[.int .i64 what, .int .i64 n, .int .i64 x, .int .i64 slot, .int .u32 gen] 43)).alloc (.cells #[.int .i64 slot, .int .u32 gen] 31)) = W at *
  obtain ⟨B, hB⟩ : ∃ B, w.heap.size = B := ⟨_, rfl⟩
  simp only [hB] at *
  have HX := hid hX
  clear hX hW hB HH
  obtain ⟨ta, tc, rfl⟩ : ∃ ta tc, tv = .slice ta T.length tc := by
    rcases hTt.out.2 with ⟨rfl, hn⟩ | ⟨gt, cap, cur, rfl, _⟩
    · exact ⟨none, 0, by rw [hn]⟩
    · exact ⟨_, _, rfl⟩
  clear hTt
  obtain ⟨rb, hrb⟩ : ∃ rb : Bool, decide (0 < T.length ∧ (what = 4 ∨ what = 5)) = rb := ⟨_, rfl⟩
  have HRB := hid hrb
  clear hrb
  go_upto_region 2 with fail
  go_cut [36] from 24 to 44 (fun v wx => v = .bool rb ∧ wx = W)
  case first =>
    as_aux_lemma =>
      have k0 := cell_of HX.out.k6 0
      by_cases h1 : 0 < T.length
      · by_cases h2 : what = 4
        · subst h2
          obtain rfl : rb = true := by rw [← HRB.out]; simp [h1]
          go_wp2_with fail
          go_meet
          exact ⟨rfl, rfl⟩
        · by_cases h3 : what = 5
          · subst h3
            obtain rfl : rb = true := by rw [← HRB.out]; simp [h1]
            go_wp2_with fail
            go_meet
            exact ⟨rfl, rfl⟩
          · obtain rfl : rb = false := by rw [← HRB.out]; simp [h2, h3]
            have e2 : (what == 4) = false := by simpa using h2
            have e3 : (what == 5) = false := by simpa using h3
            clear h2 h3
            go_wp2_with fail
            go_meet
            exact ⟨rfl, rfl⟩
      · obtain rfl : rb = false := by rw [← HRB.out]; simp; omega
        have h0 : T.length = 0 := by omega
        clear h1
        go_wp2_with fail
        go_meet
        exact ⟨rfl, rfl⟩
  case rest =>
  obtain ⟨rfl, rfl⟩ := hcut
  go_upto_if 36 with fail
  go_cut [] from 24 to 44 (fun wx => ∃ xs xg, DX w0 b g cp b2 g2 l l (.slice ta T.length tc) T B what n x slot gen xs xg wx)
  case first =>
    as_aux_lemma =>
      cases rb
      · go_wp2_with fail
        go_meet
        exact ⟨_, _, HX.out⟩
      · obtain ⟨h1, _⟩ : 0 < T.length ∧ (what = 4 ∨ what = 5) := by simpa using HRB.out
        obtain ⟨p, hp⟩ : ∃ p : Nat, n % (T.length : Int) = p := ⟨(n % (T.length : Int)).toNat, by have := Int.emod_nonneg n (b := (T.length : Int)) (by omega); omega⟩
        have hpl : p < T.length := by have := Int.emod_lt_of_pos n (b := (T.length : Int)) (by omega); omega
        have HP := hid hp
        obtain ⟨gt, cap, hv, q0, q1⟩ := HX.out.d.cell (List.getElem?_eq_getElem hpl)
        simp only [Value.slice.injEq] at hv
        obtain ⟨rfl, _, rfl⟩ := hv
        generalize T[p] = t at q0 q1
        obtain ⟨ys, yg⟩ := t
        simp only at q0 q1
        have k1 := cell_of HX.out.k6 1
        have k11 := cell_of HX.out.k11 0
        have k12 := cell_of HX.out.k11 1
        have kf := free_of HX.out.k11
        clear hp HRB
        go_wp2_with (go_at_call 9; refine (pick_any n T.length p _ (by omega) (by omega) HP.out).mono ?_; rintro e w3 ⟨rfl, rfl⟩)
        go_meet
        exact ⟨ys, yg, HX.out.put ys yg⟩
  case rest =>
  obtain ⟨xs, xg, hX⟩ := hcut
  have HX := hid hX
  clear hX HRB
  obtain ⟨v, is, hg1, hg2⟩ := get_both l xs xg
  have HG1 := hid hg1
  have HG2 := hid hg2
  obtain ⟨q, hq⟩ : ∃ q : Int, what % 7 = q := ⟨_, rfl⟩
  have HQ := hid hq
  have hq0 : 0 ≤ q := by omega
  have hq7 : q < 7 := by omega
  have k4 := cell_of HX.out.k4 0
  have k11 := cell_of HX.out.k11 0
  have k12 := cell_of HX.out.k11 1
  clear hg1 hg2 hq
  go_wp2_with fail
  refine (HG1.out _ _ _ _ HX.out.d.sa).mono ?_
  rintro e w1 ⟨rfl, hb⟩
  have HX1 := hid (HX.out.below hb)
  have k11 := cell_of HX1.out.k11 0
  have k12 := cell_of HX1.out.k11 1
  clear hb HX
  go_wp2_with fail
  refine (HG2.out _ _ _ HX1.out.d.ra).mono ?_
  rintro e w2 ⟨rfl, hb⟩
  have HX2 := hid (HX1.out.below hb)
  have k60 := cell_of HX2.out.k6 0
  clear hb HX1 HG1 HG2 k11 k12
  go_wp2_with fail
  refine (pick_any what 7 q _ (by omega) (by omega) HQ.out).mono ?_
  rintro e w3 ⟨rfl, rfl⟩
  clear HQ k60
  have hqc : (q = 0 ∨ q = 1) ∨ (q = 2 ∨ q = 4) ∨ (q = 3 ∨ q = 5) ∨ q = 6 := by omega
  rcases hqc with hqc | hqc | hqc | rfl
  · as_aux_lemma =>
      obtain ⟨it, hit, hz, hsi, hby⟩ := info_parts (P := Try.prog) (e := 31) (z := .agg #[.int .i64 0, .int .u32 0]) (size := 2) (bytes := 16) (by kernel_rfl)
      have HI := hid hit
      have HZ := hid hz
      have HS := hid hsi
      have HY := hid hby
      clear hit hz hsi hby
      obtain ⟨ys, yg, k, l', hk, ht1, ht2⟩ := take_both l x
      have HT1 := hid ht1
      have HT2 := hid ht2
      have k4 := cell_of HX2.out.k4 0
      have k62 := cell_of HX2.out.k6 2
      clear ht1 ht2
      rcases hqc with rfl | rfl
      · go_wp2_with fail
        refine (HT1.out _ _ _ _ HX2.out.d.sa).mono ?_
        rintro e w4 ⟨rfl, hs, hM⟩
        have HX3 := hid (HX2.out.turn_s hs hM)
        have HX4 := hid (HX3.out.below ((Below.refl _ _).alloc (Nat.le_refl _) (.cells #[.int .i64 ys, .int .u32 yg] 31)))
        have HN4 := hid (heap_new w4 (.cells #[.int .i64 ys, .int .u32 yg] 31))
        have k62 := cell_of HX4.out.k6 2
        clear hs hM HX2 k4
        go_wp2_with fail
        refine (HT2.out _ _ _ HX4.out.d.ra).mono ?_
        rintro e w5 ⟨rfl, hs, hM⟩
        obtain ⟨cs2, hcs2, _⟩ := HX4.out.d.ra.hc.hg
        have hn5 := (hM.block _ (lt_of_block HN4.out) (fun e => tag_ne HN4.out hcs2 (by decide) e)).trans HN4.out
        have hsz5 := hM.size
        have hX5 := (HX4.out.turn_r hs hM).below ((Below.refl _ _).alloc (Nat.le_refl _) (.cells #[.int .i64 ys, .int .u32 yg] 31))
        have hN5 := heap_new w5 (.cells #[.int .i64 ys, .int .u32 yg] 31)
        have hN6 := blk_alloc (o' := (.cells #[.int .i64 ys, .int .u32 yg] 31)) hn5
        simp only [World.size_alloc] at hsz5
        have HOB : Hid (∀ i, w4.heap.size ≤ i → some i ≠ (Value.slice ta T.length tc).ownBlock) := hid fun i hi e => by have := (HX3.out.d.told.lt i e.symm).2; omega
        clear hs hM HX3 hcs2 hn5 k62 HT1 HT2 HX4 HN4
        rcases hk with rfl | rfl
        · have HX6 := hid (hX5.below ((Below.refl _ _).alloc (Nat.le_refl _) (.cells #[.int .i64 ys, .int .u32 yg] 31)))
          have HA6 := hid (blk_alloc (o' := (.cells #[.int .i64 ys, .int .u32 yg] 31)) hN6)
          have HB6 := hid (blk_alloc (o' := (.cells #[.int .i64 ys, .int .u32 yg] 31)) hN5)
          have hnn := heap_new (w5.alloc (.cells #[.int .i64 ys, .int .u32 yg] 31)) (.cells #[.int .i64 ys, .int .u32 yg] 31)
          rw [show (w5.alloc (.cells #[.int .i64 ys, .int .u32 yg] 31)).heap.size = w5.heap.size + 1 by simp] at hnn
          have m0 := cell_of hnn 0
          have m1 := cell_of hnn 1
          have hnews : ∀ j u, [Value.int .i64 ys, Value.int .u32 yg][j]? = some u → ((w5.alloc (.cells #[.int .i64 ys, .int .u32 yg] 31)).alloc (.cells #[.int .i64 ys, .int .u32 yg] 31)).cell? ((⟨w5.heap.size + 1, 0, none⟩ : Addr).add j) = some u := by
            intro j u hj
            rcases j with _ | _ | j
            · cases hj
              exact m0
            · cases hj
              exact m1
            · simp at hj
          have HW := hid hnews
          have a0 := cell_of hN6 0
          have a1 := cell_of hN6 1
          have hws6 := HX6.out.d.mod.size
          have hws5 := hX5.d.mod.size
          clear hnews hnn m0 m1 hX5 hN5 hN6
          go_wp2_with (at_builtin; go_loud (refine wpList_append_own _ rfl (.tmp 137) (.tmp 139) 28 rfl w0.heap.size 31 it _ 2 16 Try.underlying28 HI.out HZ.out HS.out HY.out rfl (by decide) (.slice ta T.length tc) T.length (rflat T) rfl HX6.out.d.told ⟨w5.heap.size + 1, 0, none⟩ 1 1 [.int .i64 ys, .int .u32 yg] rfl rfl HW.out (by simp [Value.oneCell']) (by simp [maxLen]; omega) (by omega) (by simpa using hws6) ?_))
          intro v2 w6 hO7 hgr _
          obtain ⟨hd7, hk7⟩ := HX6.out.grown hgr (T' := T ++ [(ys, yg)]) (by rw [rflat_app, List.length_append]; exact hO7)
          have HD7 := hid hd7
          have HK7 := hid hk7
          have HA7 := hid ((hgr.block _ (lt_of_block HA6.out) (HOB.out _ (Nat.le_refl _))).trans HA6.out)
          have HB7 := hid ((hgr.block _ (lt_of_block HB6.out) (HOB.out _ (by omega))).trans HB6.out)
          clear hd7 hk7 hO7 hgr HX6 HA6 HB6 HW a0 a1
          go_wp2_with fail
          refine wp_region_seq 13 (fun w1 => Below (w6).heap.size (w6) w1) (by kernel_rfl) (by kernel_rfl) (by kernel_rfl) ⟨rfl, rfl, rfl, Nat.le_refl _, fun _ _ => rfl⟩ ?_
          dsimp only [List.take]
          iterate 13
            refine Seq.cons (a' := ?_) ?_ ?_ ?_
            rotate_left
            ·
              intro w1 hw1
              have k4 := cell_of (blk_below HK7.out hw1 (lt_of_block HK7.out))
              have hA := blk_below HA7.out hw1 (lt_of_block HA7.out)
              have hB := blk_below HB7.out hw1 (lt_of_block HB7.out)
              have k4 := k4 0
              have a0 := cell_of hA 0
              have a1 := cell_of hA 1
              have b0 := cell_of hB 0
              have b1 := cell_of hB 1
              clear hA hB
              go_wp2_with (fail)
              refine ⟨?_, by first | assumption | (simpa using below_chain hw1 hb hw1.size)⟩
              exact rfl
            · kernel_rfl
          refine SeqI.nil ?_
          intro _ w1 _ hw1
          dsimp only [List.drop]
          have HD8 := hid (HD7.out.below hw1)
          clear hw1
          go_wp2_with fail
          exact ⟨.tuple #[.pointer (some ⟨b, 0, none⟩), v2, .bool true], by simp [results, Try.results18, go_sem], b, g, cp, l', v2, _, by first | rfl | simp, by simp, HD8.out⟩
        · have HX6 := hid hX5
          have HA6 := hid hN6
          have HB6 := hid hN5
          clear hX5 hN5 hN6
          go_wp2_with fail
          refine wp_region_seq 13 (fun w1 => Below ((w5.alloc (.cells #[.int .i64 ys, .int .u32 yg] 31))).heap.size ((w5.alloc (.cells #[.int .i64 ys, .int .u32 yg] 31))) w1) (by kernel_rfl) (by kernel_rfl) (by kernel_rfl) ⟨rfl, rfl, rfl, Nat.le_refl _, fun _ _ => rfl⟩ ?_
          dsimp only [List.take]
          iterate 13
            refine Seq.cons (a' := ?_) ?_ ?_ ?_
            rotate_left
            ·
              intro w1 hw1
              have k4 := cell_of (HX6.out.below hw1).k4 0
              have hA := blk_below HA6.out hw1 (lt_of_block HA6.out)
              have hB := blk_below HB6.out hw1 (lt_of_block HB6.out)
              have a0 := cell_of hA 0
              have a1 := cell_of hA 1
              have b0 := cell_of hB 0
              have b1 := cell_of hB 1
              clear hA hB
              go_wp2_with (fail)
              refine ⟨?_, by first | assumption | (simpa using below_chain hw1 hb hw1.size)⟩
              exact rfl
            · kernel_rfl
          refine SeqI.nil ?_
          intro _ w1 _ hw1
          dsimp only [List.drop]
          have HX7 := hid (HX6.out.below hw1)
          clear hw1
          go_wp2_with fail
          exact ⟨.tuple #[.pointer (some ⟨b, 0, none⟩), .slice ta T.length tc, .bool true], by simp [results, Try.results18, go_sem], b, g, cp, l', _, T, by first | rfl | simp, by omega, HX7.out.d⟩
      · go_wp2_with fail
        refine (HT1.out _ _ _ _ HX2.out.d.sa).mono ?_
        rintro e w4 ⟨rfl, hs, hM⟩
        have HX3 := hid (HX2.out.turn_s hs hM)
        have HX4 := hid (HX3.out.below ((Below.refl _ _).alloc (Nat.le_refl _) (.cells #[.int .i64 ys, .int .u32 yg] 31)))
        have HN4 := hid (heap_new w4 (.cells #[.int .i64 ys, .int .u32 yg] 31))
        have k62 := cell_of HX4.out.k6 2
        clear hs hM HX2 k4
        go_wp2_with fail
        refine (HT2.out _ _ _ HX4.out.d.ra).mono ?_
        rintro e w5 ⟨rfl, hs, hM⟩
        obtain ⟨cs2, hcs2, _⟩ := HX4.out.d.ra.hc.hg
        have hn5 := (hM.block _ (lt_of_block HN4.out) (fun e => tag_ne HN4.out hcs2 (by decide) e)).trans HN4.out
        have hsz5 := hM.size
        have hX5 := (HX4.out.turn_r hs hM).below ((Below.refl _ _).alloc (Nat.le_refl _) (.cells #[.int .i64 ys, .int .u32 yg] 31))
        have hN5 := heap_new w5 (.cells #[.int .i64 ys, .int .u32 yg] 31)
        have hN6 := blk_alloc (o' := (.cells #[.int .i64 ys, .int .u32 yg] 31)) hn5
        simp only [World.size_alloc] at hsz5
        have HOB : Hid (∀ i, w4.heap.size ≤ i → some i ≠ (Value.slice ta T.length tc).ownBlock) := hid fun i hi e => by have := (HX3.out.d.told.lt i e.symm).2; omega
        clear hs hM HX3 hcs2 hn5 k62 HT1 HT2 HX4 HN4
        rcases hk with rfl | rfl
        · have HX6 := hid (hX5.below ((Below.refl _ _).alloc (Nat.le_refl _) (.cells #[.int .i64 ys, .int .u32 yg] 31)))
          have HA6 := hid (blk_alloc (o' := (.cells #[.int .i64 ys, .int .u32 yg] 31)) hN6)
          have HB6 := hid (blk_alloc (o' := (.cells #[.int .i64 ys, .int .u32 yg] 31)) hN5)
          have hnn := heap_new (w5.alloc (.cells #[.int .i64 ys, .int .u32 yg] 31)) (.cells #[.int .i64 ys, .int .u32 yg] 31)
          rw [show (w5.alloc (.cells #[.int .i64 ys, .int .u32 yg] 31)).heap.size = w5.heap.size + 1 by simp] at hnn
          have m0 := cell_of hnn 0
          have m1 := cell_of hnn 1
          have hnews : ∀ j u, [Value.int .i64 ys, Value.int .u32 yg][j]? = some u → ((w5.alloc (.cells #[.int .i64 ys, .int .u32 yg] 31)).alloc (.cells #[.int .i64 ys, .int .u32 yg] 31)).cell? ((⟨w5.heap.size + 1, 0, none⟩ : Addr).add j) = some u := by
            intro j u hj
            rcases j with _ | _ | j
            · cases hj
              exact m0
            · cases hj
              exact m1
            · simp at hj
          have HW := hid hnews
          have a0 := cell_of hN6 0
          have a1 := cell_of hN6 1
          have hws6 := HX6.out.d.mod.size
          have hws5 := hX5.d.mod.size
          clear hnews hnn m0 m1 hX5 hN5 hN6
          go_wp2_with (at_builtin; go_loud (refine wpList_append_own _ rfl (.tmp 137) (.tmp 139) 28 rfl w0.heap.size 31 it _ 2 16 Try.underlying28 HI.out HZ.out HS.out HY.out rfl (by decide) (.slice ta T.length tc) T.length (rflat T) rfl HX6.out.d.told ⟨w5.heap.size + 1, 0, none⟩ 1 1 [.int .i64 ys, .int .u32 yg] rfl rfl HW.out (by simp [Value.oneCell']) (by simp [maxLen]; omega) (by omega) (by simpa using hws6) ?_))
          intro v2 w6 hO7 hgr _
          obtain ⟨hd7, hk7⟩ := HX6.out.grown hgr (T' := T ++ [(ys, yg)]) (by rw [rflat_app, List.length_append]; exact hO7)
          have HD7 := hid hd7
          have HK7 := hid hk7
          have HA7 := hid ((hgr.block _ (lt_of_block HA6.out) (HOB.out _ (Nat.le_refl _))).trans HA6.out)
          have HB7 := hid ((hgr.block _ (lt_of_block HB6.out) (HOB.out _ (by omega))).trans HB6.out)
          clear hd7 hk7 hO7 hgr HX6 HA6 HB6 HW a0 a1
          go_wp2_with fail
          refine wp_region_seq 13 (fun w1 => Below (w6).heap.size (w6) w1) (by kernel_rfl) (by kernel_rfl) (by kernel_rfl) ⟨rfl, rfl, rfl, Nat.le_refl _, fun _ _ => rfl⟩ ?_
          dsimp only [List.take]
          iterate 13
            refine Seq.cons (a' := ?_) ?_ ?_ ?_
            rotate_left
            ·
              intro w1 hw1
              have k4 := cell_of (blk_below HK7.out hw1 (lt_of_block HK7.out))
              have hA := blk_below HA7.out hw1 (lt_of_block HA7.out)
              have hB := blk_below HB7.out hw1 (lt_of_block HB7.out)
              have k4 := k4 0
              have a0 := cell_of hA 0
              have a1 := cell_of hA 1
              have b0 := cell_of hB 0
              have b1 := cell_of hB 1
              clear hA hB
              go_wp2_with (fail)
              refine ⟨?_, by first | assumption | (simpa using below_chain hw1 hb hw1.size)⟩
              exact rfl
            · kernel_rfl
          refine SeqI.nil ?_
          intro _ w1 _ hw1
          dsimp only [List.drop]
          have HD8 := hid (HD7.out.below hw1)
          clear hw1
          go_wp2_with fail
          exact ⟨.tuple #[.pointer (some ⟨b, 0, none⟩), v2, .bool true], by simp [results, Try.results18, go_sem], b, g, cp, l', v2, _, by first | rfl | simp, by simp, HD8.out⟩
        · have HX6 := hid hX5
          have HA6 := hid hN6
          have HB6 := hid hN5
          clear hX5 hN5 hN6
          go_wp2_with fail
          refine wp_region_seq 13 (fun w1 => Below ((w5.alloc (.cells #[.int .i64 ys, .int .u32 yg] 31))).heap.size ((w5.alloc (.cells #[.int .i64 ys, .int .u32 yg] 31))) w1) (by kernel_rfl) (by kernel_rfl) (by kernel_rfl) ⟨rfl, rfl, rfl, Nat.le_refl _, fun _ _ => rfl⟩ ?_
          dsimp only [List.take]
          iterate 13
            refine Seq.cons (a' := ?_) ?_ ?_ ?_
            rotate_left
            ·
              intro w1 hw1
              have k4 := cell_of (HX6.out.below hw1).k4 0
              have hA := blk_below HA6.out hw1 (lt_of_block HA6.out)
              have hB := blk_below HB6.out hw1 (lt_of_block HB6.out)
              have a0 := cell_of hA 0
              have a1 := cell_of hA 1
              have b0 := cell_of hB 0
              have b1 := cell_of hB 1
              clear hA hB
              go_wp2_with (fail)
              refine ⟨?_, by first | assumption | (simpa using below_chain hw1 hb hw1.size)⟩
              exact rfl
            · kernel_rfl
          refine SeqI.nil ?_
          intro _ w1 _ hw1
          dsimp only [List.drop]
          have HX7 := hid (HX6.out.below hw1)
          clear hw1
          go_wp2_with fail
          exact ⟨.tuple #[.pointer (some ⟨b, 0, none⟩), .slice ta T.length tc, .bool true], by simp [results, Try.results18, go_sem], b, g, cp, l', _, T, by first | rfl | simp, by omega, HX7.out.d⟩
  · as_aux_lemma =>
      obtain ⟨k, l', hf1, hf2⟩ := free_both l xs xg
      have HF1 := hid hf1
      have HF2 := hid hf2
      clear hf1 hf2
      rcases hqc with rfl | rfl
      · go_wp2_with fail
        refine wp_region_seqI 12 (Turn2 4 7 (fun c1 c2 w1 => DX w0 b g cp b2 g2 (cond c1 l' l) (cond c2 l' l) (.slice ta T.length tc) T B what n x slot gen xs xg w1)) (by kernel_rfl) (by kernel_rfl) (by kernel_rfl) (Turn2.start (HX2.out.below ⟨rfl, rfl, rfl, Nat.le_refl _, fun _ _ => rfl⟩)) ?_
        dsimp only [List.take]
        iterate 4
          refine Seq2.calm (a' := ?_) (by decide) (by decide) ?_ ?_ ?_
          rotate_left
          ·
            intro c1 c2 w1 hw1
            have HW1 := hid hw1
            have k4 := cell_of hw1.k4 0
            have k11 := cell_of hw1.k11 0
            have k12 := cell_of hw1.k11 1
            have k62 := cell_of hw1.k6 2
            clear hw1
            go_wp2_with (fail)
            refine ⟨?_, HW1.out⟩
            exact rfl
          · kernel_rfl
        refine Seq2.fst (a' := ?_) (by decide) ?_ ?_ ?_
        rotate_left
        ·
          intro c2 w1 hw1
          have HW1 := hid hw1
          clear hw1
          go_wp2_with (go_at_call 12; refine (HF1.out _ _ _ _ HW1.out.d.sa).mono ?_; rintro e w4 ⟨rfl, hs, hM⟩)
          refine ⟨?_, HW1.out.turn_s hs hM⟩
          exact rfl
        · kernel_rfl
        iterate 2
          refine Seq2.calm (a' := ?_) (by decide) (by decide) ?_ ?_ ?_
          rotate_left
          ·
            intro c1 c2 w1 hw1
            have HW1 := hid hw1
            have k4 := cell_of hw1.k4 0
            have k11 := cell_of hw1.k11 0
            have k12 := cell_of hw1.k11 1
            have k62 := cell_of hw1.k6 2
            clear hw1
            go_wp2_with (fail)
            refine ⟨?_, HW1.out⟩
            exact rfl
          · kernel_rfl
        refine Seq2.snd (a' := ?_) (by decide) ?_ ?_ ?_
        rotate_left
        ·
          intro c1 w1 hw1
          have HW1 := hid hw1
          clear hw1
          go_wp2_with (go_at_call 36; refine (HF2.out _ _ _ HW1.out.d.ra).mono ?_; rintro e w4 ⟨rfl, hs, hM⟩)
          refine ⟨?_, HW1.out.turn_r hs hM⟩
          exact rfl
        · kernel_rfl
        iterate 4
          refine Seq2.calm (a' := ?_) (by decide) (by decide) ?_ ?_ ?_
          rotate_left
          ·
            intro c1 c2 w1 hw1
            have HW1 := hid hw1
            have k4 := cell_of hw1.k4 0
            have k11 := cell_of hw1.k11 0
            have k12 := cell_of hw1.k11 1
            have k62 := cell_of hw1.k6 2
            clear hw1
            go_wp2_with (fail)
            refine ⟨?_, HW1.out⟩
            exact rfl
          · kernel_rfl
        refine SeqI.nil ?_
        intro D w1 hD hI
        replace hI := hI.done (hD 4 (by omega)) (hD 7 (by omega))
        clear hD
        dsimp only [List.drop]
        go_wp2_with fail
        exact ⟨.tuple #[.pointer (some ⟨b, 0, none⟩), .slice ta T.length tc, .bool true], by simp [results, Try.results18, go_sem], b, g, cp, l', _, T, by first | rfl | simp, by omega, hI.d⟩
      · go_wp2_with fail
        refine wp_region_seqI 12 (Turn2 4 7 (fun c1 c2 w1 => DX w0 b g cp b2 g2 (cond c1 l' l) (cond c2 l' l) (.slice ta T.length tc) T B what n x slot gen xs xg w1)) (by kernel_rfl) (by kernel_rfl) (by kernel_rfl) (Turn2.start (HX2.out.below ⟨rfl, rfl, rfl, Nat.le_refl _, fun _ _ => rfl⟩)) ?_
        dsimp only [List.take]
        iterate 4
          refine Seq2.calm (a' := ?_) (by decide) (by decide) ?_ ?_ ?_
          rotate_left
          ·
            intro c1 c2 w1 hw1
            have HW1 := hid hw1
            have k4 := cell_of hw1.k4 0
            have k11 := cell_of hw1.k11 0
            have k12 := cell_of hw1.k11 1
            have k62 := cell_of hw1.k6 2
            clear hw1
            go_wp2_with (fail)
            refine ⟨?_, HW1.out⟩
            exact rfl
          · kernel_rfl
        refine Seq2.fst (a' := ?_) (by decide) ?_ ?_ ?_
        rotate_left
        ·
          intro c2 w1 hw1
          have HW1 := hid hw1
          clear hw1
          go_wp2_with (go_at_call 12; refine (HF1.out _ _ _ _ HW1.out.d.sa).mono ?_; rintro e w4 ⟨rfl, hs, hM⟩)
          refine ⟨?_, HW1.out.turn_s hs hM⟩
          exact rfl
        · kernel_rfl
        iterate 2
          refine Seq2.calm (a' := ?_) (by decide) (by decide) ?_ ?_ ?_
          rotate_left
          ·
            intro c1 c2 w1 hw1
            have HW1 := hid hw1
            have k4 := cell_of hw1.k4 0
            have k11 := cell_of hw1.k11 0
            have k12 := cell_of hw1.k11 1
            have k62 := cell_of hw1.k6 2
            clear hw1
            go_wp2_with (fail)
            refine ⟨?_, HW1.out⟩
            exact rfl
          · kernel_rfl
        refine Seq2.snd (a' := ?_) (by decide) ?_ ?_ ?_
        rotate_left
        ·
          intro c1 w1 hw1
          have HW1 := hid hw1
          clear hw1
          go_wp2_with (go_at_call 36; refine (HF2.out _ _ _ HW1.out.d.ra).mono ?_; rintro e w4 ⟨rfl, hs, hM⟩)
          refine ⟨?_, HW1.out.turn_r hs hM⟩
          exact rfl
        · kernel_rfl
        iterate 4
          refine Seq2.calm (a' := ?_) (by decide) (by decide) ?_ ?_ ?_
          rotate_left
          ·
            intro c1 c2 w1 hw1
            have HW1 := hid hw1
            have k4 := cell_of hw1.k4 0
            have k11 := cell_of hw1.k11 0
            have k12 := cell_of hw1.k11 1
            have k62 := cell_of hw1.k6 2
            clear hw1
            go_wp2_with (fail)
            refine ⟨?_, HW1.out⟩
            exact rfl
          · kernel_rfl
        refine SeqI.nil ?_
        intro D w1 hD hI
        replace hI := hI.done (hD 4 (by omega)) (hD 7 (by omega))
        clear hD
        dsimp only [List.drop]
        go_wp2_with fail
        exact ⟨.tuple #[.pointer (some ⟨b, 0, none⟩), .slice ta T.length tc, .bool true], by simp [results, Try.results18, go_sem], b, g, cp, l', _, T, by first | rfl | simp, by omega, hI.d⟩
  · as_aux_lemma =>
      obtain ⟨k, l', hf1, hf2⟩ := set_both l xs xg x
      have HF1 := hid hf1
      have HF2 := hid hf2
      clear hf1 hf2
      rcases hqc with rfl | rfl
      · go_wp2_with fail
        refine wp_region_seqI 16 (Turn2 6 11 (fun c1 c2 w1 => DX w0 b g cp b2 g2 (cond c1 l' l) (cond c2 l' l) (.slice ta T.length tc) T B what n x slot gen xs xg w1)) (by kernel_rfl) (by kernel_rfl) (by kernel_rfl) (Turn2.start (HX2.out.below ⟨rfl, rfl, rfl, Nat.le_refl _, fun _ _ => rfl⟩)) ?_
        dsimp only [List.take]
        iterate 6
          refine Seq2.calm (a' := ?_) (by decide) (by decide) ?_ ?_ ?_
          rotate_left
          ·
            intro c1 c2 w1 hw1
            have HW1 := hid hw1
            have k4 := cell_of hw1.k4 0
            have k11 := cell_of hw1.k11 0
            have k12 := cell_of hw1.k11 1
            have k62 := cell_of hw1.k6 2
            clear hw1
            go_wp2_with (fail)
            refine ⟨?_, HW1.out⟩
            exact rfl
          · kernel_rfl
        refine Seq2.fst (a' := ?_) (by decide) ?_ ?_ ?_
        rotate_left
        ·
          intro c2 w1 hw1
          have HW1 := hid hw1
          clear hw1
          go_wp2_with (go_at_call 16; refine (HF1.out _ _ _ _ HW1.out.d.sa).mono ?_; rintro e w4 ⟨rfl, hs, hM⟩)
          refine ⟨?_, HW1.out.turn_s hs hM⟩
          exact rfl
        · kernel_rfl
        iterate 4
          refine Seq2.calm (a' := ?_) (by decide) (by decide) ?_ ?_ ?_
          rotate_left
          ·
            intro c1 c2 w1 hw1
            have HW1 := hid hw1
            have k4 := cell_of hw1.k4 0
            have k11 := cell_of hw1.k11 0
            have k12 := cell_of hw1.k11 1
            have k62 := cell_of hw1.k6 2
            clear hw1
            go_wp2_with (fail)
            refine ⟨?_, HW1.out⟩
            exact rfl
          · kernel_rfl
        refine Seq2.snd (a' := ?_) (by decide) ?_ ?_ ?_
        rotate_left
        ·
          intro c1 w1 hw1
          have HW1 := hid hw1
          clear hw1
          go_wp2_with (go_at_call 37; refine (HF2.out _ _ _ HW1.out.d.ra).mono ?_; rintro e w4 ⟨rfl, hs, hM⟩)
          refine ⟨?_, HW1.out.turn_r hs hM⟩
          exact rfl
        · kernel_rfl
        iterate 4
          refine Seq2.calm (a' := ?_) (by decide) (by decide) ?_ ?_ ?_
          rotate_left
          ·
            intro c1 c2 w1 hw1
            have HW1 := hid hw1
            have k4 := cell_of hw1.k4 0
            have k11 := cell_of hw1.k11 0
            have k12 := cell_of hw1.k11 1
            have k62 := cell_of hw1.k6 2
            clear hw1
            go_wp2_with (fail)
            refine ⟨?_, HW1.out⟩
            exact rfl
          · kernel_rfl
        refine SeqI.nil ?_
        intro D w1 hD hI
        replace hI := hI.done (hD 6 (by omega)) (hD 11 (by omega))
        clear hD
        dsimp only [List.drop]
        go_wp2_with fail
        exact ⟨.tuple #[.pointer (some ⟨b, 0, none⟩), .slice ta T.length tc, .bool true], by simp [results, Try.results18, go_sem], b, g, cp, l', _, T, by first | rfl | simp, by omega, hI.d⟩
      · go_wp2_with fail
        refine wp_region_seqI 16 (Turn2 6 11 (fun c1 c2 w1 => DX w0 b g cp b2 g2 (cond c1 l' l) (cond c2 l' l) (.slice ta T.length tc) T B what n x slot gen xs xg w1)) (by kernel_rfl) (by kernel_rfl) (by kernel_rfl) (Turn2.start (HX2.out.below ⟨rfl, rfl, rfl, Nat.le_refl _, fun _ _ => rfl⟩)) ?_
        dsimp only [List.take]
        iterate 6
          refine Seq2.calm (a' := ?_) (by decide) (by decide) ?_ ?_ ?_
          rotate_left
          ·
            intro c1 c2 w1 hw1
            have HW1 := hid hw1
            have k4 := cell_of hw1.k4 0
            have k11 := cell_of hw1.k11 0
            have k12 := cell_of hw1.k11 1
            have k62 := cell_of hw1.k6 2
            clear hw1
            go_wp2_with (fail)
            refine ⟨?_, HW1.out⟩
            exact rfl
          · kernel_rfl
        refine Seq2.fst (a' := ?_) (by decide) ?_ ?_ ?_
        rotate_left
        ·
          intro c2 w1 hw1
          have HW1 := hid hw1
          clear hw1
          go_wp2_with (go_at_call 16; refine (HF1.out _ _ _ _ HW1.out.d.sa).mono ?_; rintro e w4 ⟨rfl, hs, hM⟩)
          refine ⟨?_, HW1.out.turn_s hs hM⟩
          exact rfl
        · kernel_rfl
        iterate 4
          refine Seq2.calm (a' := ?_) (by decide) (by decide) ?_ ?_ ?_
          rotate_left
          ·
            intro c1 c2 w1 hw1
            have HW1 := hid hw1
            have k4 := cell_of hw1.k4 0
            have k11 := cell_of hw1.k11 0
            have k12 := cell_of hw1.k11 1
            have k62 := cell_of hw1.k6 2
            clear hw1
            go_wp2_with (fail)
            refine ⟨?_, HW1.out⟩
            exact rfl
          · kernel_rfl
        refine Seq2.snd (a' := ?_) (by decide) ?_ ?_ ?_
        rotate_left
        ·
          intro c1 w1 hw1
          have HW1 := hid hw1
          clear hw1
          go_wp2_with (go_at_call 37; refine (HF2.out _ _ _ HW1.out.d.ra).mono ?_; rintro e w4 ⟨rfl, hs, hM⟩)
          refine ⟨?_, HW1.out.turn_r hs hM⟩
          exact rfl
        · kernel_rfl
        iterate 4
          refine Seq2.calm (a' := ?_) (by decide) (by decide) ?_ ?_ ?_
          rotate_left
          ·
            intro c1 c2 w1 hw1
            have HW1 := hid hw1
            have k4 := cell_of hw1.k4 0
            have k11 := cell_of hw1.k11 0
            have k12 := cell_of hw1.k11 1
            have k62 := cell_of hw1.k6 2
            clear hw1
            go_wp2_with (fail)
            refine ⟨?_, HW1.out⟩
            exact rfl
          · kernel_rfl
        refine SeqI.nil ?_
        intro D w1 hD hI
        replace hI := hI.done (hD 6 (by omega)) (hD 11 (by omega))
        clear hD
        dsimp only [List.drop]
        go_wp2_with fail
        exact ⟨.tuple #[.pointer (some ⟨b, 0, none⟩), .slice ta T.length tc, .bool true], by simp [results, Try.results18, go_sem], b, g, cp, l', _, T, by first | rfl | simp, by omega, hI.d⟩
  · as_aux_lemma =>
      have hb3 := HX2.out.d.sa.blt
      have hg3 := HX2.out.d.sa.glt
      have hz3 := HX2.out.d.mod.size
      have k4 := cell_of HX2.out.k4 0
      go_wp2_with fail
      refine (copy_any _ HX2.out.d.sa).mono ?_
      rintro e w4 ⟨b', g', cap, rfl, hb', hg', hC, hB⟩
      have hd4 := HX2.out.below hB
      have HY4 : Hid (DY w0 b g cp b' g' cap b2 g2 l (.slice ta T.length tc) T B what n x slot gen xs xg w4) := hid ⟨⟨l, hd4.d.sa⟩, ⟨hC, hd4.d.ra, hd4.d.told, hd4.d.mod, by omega, by omega, hd4.d.wb2, hd4.d.wg2⟩, hd4.k4, hd4.k6, hd4.k11, by omega, HX2.out.d.wg⟩
      have k4 := cell_of HY4.out.k4 0
      have k62 := cell_of HY4.out.k6 2
      clear hC hB hd4 HX2 hb' hg' hb3 hg3
      go_wp2_with fail
      obtain ⟨m, hm⟩ := HY4.out.s
      obtain ⟨ys, yg, k, m', _, ht1, _⟩ := take_both m x
      refine (ht1 _ _ _ _ hm).mono ?_
      rintro e w5 ⟨rfl, hs, hM⟩
      have HY5 := hid (HY4.out.turn hs hM)
      have k4 := cell_of HY5.out.k4 0
      have k11 := cell_of HY5.out.k11 0
      have k12 := cell_of HY5.out.k11 1
      clear hm ht1 hs hM HY4 k62
      go_wp2_with fail
      obtain ⟨m, hm⟩ := HY5.out.s
      obtain ⟨k2, m', hf1, _⟩ := free_both m xs xg
      refine (hf1 _ _ _ _ hm).mono ?_
      rintro e w6 ⟨rfl, hs, hM⟩
      have HY6 := hid (HY5.out.turn hs hM)
      have k4 := cell_of HY6.out.k4 0
      clear hm hf1 hs hM HY5 k11 k12
      go_wp2_with fail
      refine (all_any _).mono ?_
      rintro e w7 ⟨rfl, rfl⟩
      have HY7 := hid (HY6.out.below ((Below.refl _ _).alloc (Nat.le_refl _) (.cells #[.pointer (some ⟨b, 0, none⟩)] 23)))
      have HKB := hid (heap_new w6 (.cells #[.pointer (some ⟨b, 0, none⟩)] 23))
      clear HY6 k4
      go_wp2_with fail
      generalize hWl : w6.alloc (.cells #[.pointer (some ⟨b, 0, none⟩)] 23) = Wl at *
      obtain ⟨Bq, hBq⟩ : ∃ Bq, w6.heap.size = Bq := ⟨_, rfl⟩
      have hsl : Wl.heap.size = Bq + 1 := by rw [← hWl, ← hBq]; simp
      simp only [hBq] at *
      clear hWl
      obtain ⟨m7, hm7⟩ := HY7.out.s
      have hgl := hm7.glt
      have hz7 := HY7.out.d.mod.size
      have HM7 := hid hm7
      have HKB' := hid HKB.out
      clear hm7
      refine wpIn_wide.1 (wpIn_rangeFunc_ownH (n := 8) (gf := 42) (lb := #[.pointer (some ⟨Bq, 0, none⟩)]) rfl (by decide) rfl trivial (enters_of Try.func42 (by kernel_rfl) rfl)
        (all_stops 7 Bq b g cp m7 Wl HKB'.out HM7.out) KpC.trans (fun W L o o' _ h ho _ => KpC.put W L o o' h ho) (Below.refl _ _) (fun _ => rfl)
        (fun _ W => DY w0 b g cp b' g' cap b2 g2 l (.slice ta T.length tc) T B what n x slot gen xs xg W ∧ Wl.heap.size ≤ W.heap.size) (fun _ _ _ => False)
        (fun pre A B row hs hg hr => ⟨hs.1.kept hg (base := Wl.heap.size) hz7 hr, Nat.le_trans hs.2 hg.size⟩) (fun _ _ _ _ _ hs _ _ => hs) ⟨HY7.out, Nat.le_refl _⟩
        (fun y a' W => ∃ Bx, Wl.heap.size ≤ Bx ∧ W.heap[Bx]? = some (.cells #[.int .i64 (y.1 : Int), .int .u32 y.2.1] 31) ∧ a' = { tmps := #[Value.pointer (some ⟨b, 0, none⟩), Value.pointer (some ⟨b2, 0, none⟩), Value.agg #[Value.int IntKind.i64 what, Value.int IntKind.i64 n, Value.int IntKind.i64 x, Value.int IntKind.i64 slot, Value.int IntKind.u32 gen], Value.slice ta T.length tc, Value.pointer (some ⟨B, 0, none⟩), undef, Value.pointer (some ⟨B + 1, 0, none⟩), undef, Value.pointer none, Value.slice none 0 0, Value.bool false, Value.pointer (some ⟨B + 2, 0, none⟩), Value.int IntKind.i64 v, Value.bool is, Value.int IntKind.i64 v, Value.bool is, Value.pointer (some ⟨b', 0, none⟩), .pointer (some ⟨Bx, 0, none⟩), undef, undef, undef, undef, u22, u23, u24, u25, u26, u27, u28, u29, u30, u31, u32, u33, u34, u35, u36, u37, u38, u39, u40, u41, u42, u43, u44, Value.tuple #[Value.int IntKind.i64 v, Value.bool is], Value.pointer (some ⟨b, 0, none⟩), Value.agg #[Value.int IntKind.i64 xs, Value.int IntKind.u32 xg], Value.tuple #[Value.int IntKind.i64 v, Value.bool is], Value.int IntKind.i64 v, Value.bool is, Value.tuple #[Value.int IntKind.i64 v, Value.bool is], Value.pointer (some ⟨b2, 0, none⟩), Value.agg #[Value.int IntKind.i64 xs, Value.int IntKind.u32 xg], Value.tuple #[Value.int IntKind.i64 v, Value.bool is], Value.int IntKind.i64 v, Value.bool is, Value.int IntKind.i64 v, Value.int IntKind.i64 v, Value.bool false, Value.bool false, Value.bool is, Value.bool is, Value.bool false, Value.bool false, undef, undef, Value.pointer (some ⟨B + 1, 0, none⟩), Value.int IntKind.i64 what, Value.int IntKind.i64 6, Value.bool false, Value.bool false, Value.bool false, undef, undef, undef, undef, undef, undef, undef, undef, undef, Value.bool false, Value.bool false, Value.bool false, undef, undef, undef, undef, undef, undef, undef, undef, undef, undef, undef, undef, undef, Value.bool true, Value.bool true, Value.pointer (some ⟨b, 0, none⟩), Value.pointer (some ⟨b', 0, none⟩), Value.pointer (some ⟨b, 0, none⟩), Value.pointer (some ⟨B + 1, 2, none⟩), Value.int IntKind.i64 x, Value.tuple #[Value.agg #[Value.int IntKind.i64 ys, Value.int IntKind.u32 yg], Value.int IntKind.i64 k], Value.pointer (some ⟨b, 0, none⟩), Value.agg #[Value.int IntKind.i64 xs, Value.int IntKind.u32 xg], Value.int IntKind.i64 k2, Value.pointer (some ⟨b, 0, none⟩), Value.func (Fn.func 42) #[] #[Value.pointer (some ⟨Bq, 0, none⟩)], .agg #[.int .i64 (y.1 : Int), .int .u32 y.2.1], .int .i64 y.2.2, undef, undef, undef, undef, undef, undef, undef, undef, undef, undef, undef, undef, undef, undef, undef, undef, undef, undef, undef, undef, undef, undef, undef, undef, undef, undef, undef, undef, undef, undef, undef, undef, undef, undef, undef, undef, undef, undef], defers := [] })
        (fun y a' _ A B row hs hg hr => by obtain ⟨Bx, h1, h2, h3⟩ := hs; exact ⟨Bx, h1, kept_cells hg hr h2 rfl, h3⟩)
        ?assign ?body ?done ?stop)
      case assign =>
        intro L pre y W K hI hK
        unfold encs
        gi_wp2_with fail
        refine hK _ _ ((KeepsOthers.alloc _ _).from _) (KpC.below ((Below.refl _ _).alloc (Nat.le_refl _) _)) ⟨hI.1.kept (World.grownBy_alloc W _ none) (base := Wl.heap.size) hz7 (fun r e => by cases e), Nat.le_trans hI.2 (by simp)⟩ ⟨W.heap.size, hI.2, heap_new _ _, ?_⟩
        rfl
      case body =>
        rintro L pre y a' W hL _ ⟨hY, hz⟩ ⟨Bx, hBx, hX, rfl⟩ _
        have k4 := cell_of hY.k4 0
        have y0 := cell_of hX 0
        have y1 := cell_of hX 1
        have HYY := hid hY
        have HXX := hid hX
        clear hY hX
        gi_wp2_with fail
        obtain ⟨m, hm⟩ := HYY.out.s
        obtain ⟨k3, m', hs1, _⟩ := set_both m (y.1 : Int) y.2.1 99
        refine ⟨trivial, ?_⟩
        refine (callsIn_round (hs1 _ _ _ _ hm)).mono ?_
        rintro e W2 ⟨rfl, hs, hM⟩
        have hY2 := HYY.out.turn hs hM
        obtain ⟨cs, hcs, _⟩ := hm.hc.hg
        have hX2 := (hM.block _ (lt_of_block HXX.out) (fun e => tag_ne HXX.out hcs (by decide) e)).trans HXX.out
        have k4 := cell_of hY2.k4 0
        have y0 := cell_of hX2 0
        have y1 := cell_of hX2 1
        have HY2 := hid hY2
        have HM2 := hid hM
        clear hm hs1 hs hM hcs hY2 hX2 HYY HXX
        gi_wp2_with fail
        obtain ⟨m, hm⟩ := HY2.out.s
        obtain ⟨k3, m', hf1, _⟩ := free_both m (y.1 : Int) y.2.1
        refine ⟨trivial, ?_⟩
        refine (callsIn_round (hf1 _ _ _ _ hm)).mono ?_
        rintro e W3 ⟨rfl, hs, hM⟩
        have HY3 := hid (HY2.out.turn hs hM)
        have HM3 : Hid (Mod (· = g) W W3) := hid (HM2.out.trans hM (fun _ _ h => h))
        clear hm hf1 hs hM HY2 HM2 k4 y0 y1
        gi_wp2_with fail
        exact ⟨keeps_mod HM3.out hgl, KpC.mod HM3.out (fun i hi e => by omega), HY3.out, Nat.le_trans hz HM3.out.size⟩
      case done =>
        rintro D ys W hD _ ⟨hY, hz⟩ hK
        have HYY := hid hY
        clear hY
        go_wp2_with fail
        refine ⟨by simp, .inl ⟨_, _, rfl, run_takeDeferred hK, ?_⟩⟩
        exact ⟨.tuple #[.pointer (some ⟨b', 0, none⟩), .slice ta T.length tc, .bool true], by simp [results, Try.results18, go_sem], b', g', cap, l, _, T, rfl, by omega, (HYY.out.kept (grownBy_putObj' W D (.deferred none)) (base := Wl.heap.size) hz7 (fun r e => by cases e; exact ⟨hD, _, hK, rfl⟩)).d⟩
      case stop =>
        rintro D c pre W _ _ h _
        exact h.elim
end Go.Proofs.Ytmgiaedfonaefaa.C
