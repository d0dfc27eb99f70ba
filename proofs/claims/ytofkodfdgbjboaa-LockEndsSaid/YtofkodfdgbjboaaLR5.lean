/- The reference's locks: Add. -/
import Derived.Test.YtofkodfdgbjboaaLR4
import Derived.Maps.AppendAt
namespace Go.Proofs.Ytofkodfdgbjboaa
open Go.ChangeShapes Go.WideShapes Go.ChangeAt Go.RowKit Go.Burg
open Go.Burg.Lk

theorem news2 (w : World) (H : Nat) (v1 v2 : Value) (T : TypeId) (h : w.heap[H]? = some (.cells #[v1, v2] T (0, 0))) : ∀ j u, [v1, v2][j]? = some u → w.cell? ((⟨H, 0, none⟩ : Addr).add j) = some u := by
  intro j u hj
  rcases j with _ | _ | j
  · simp at hj; subst hj; exact cell_of h 0
  · simp at hj; subst hj; exact cell_of h 1
  · simp at hj
theorem news1 (w : World) (H : Nat) (v1 : Value) (T : TypeId) (h : w.heap[H]? = some (.cells #[v1] T (0, 0))) : ∀ j u, [v1][j]? = some u → w.cell? ((⟨H, 0, none⟩ : Addr).add j) = some u := by
  intro j u hj
  rcases j with _ | j
  · simp at hj; subst hj; exact cell_of h 0
  · simp at hj
/-- What a growing row turns. -/
theorem mod_grown {w w' : World} {v : Value} (h : w.grownBy w' v.ownBlock) : Mod (fun i => v.ownBlock = some i) w w' := ⟨h.os, h.tape, h.output, h.size, fun k hk hn => h.block k hk (fun e => hn e.symm)⟩

theorem RAt.rw_ne {w : World} {p : Nat} {rv wv : Value} {l : List (RefK × Wd)} {tk : Int} (h : RAt w p rv wv l tk) : ∀ g, rv.ownBlock = some g → wv.ownBlock ≠ some g := by
  intro g h1 h2
  rcases h.ws.2 with ⟨rfl, _⟩ | ⟨g', cap', cur, rfl, _, hh, _⟩
  · cases h2
  · simp [Value.ownBlock] at h2
    subst h2
    exact own_ty h.rs hh (by decide) g' h1 rfl

/-- On the way through the statement that lays a Ref behind the others. -/
structure AddMid (W0 W1 W2 W3 : World) (p n : Nat) (rv v' wv : Value) (tk : Int) (r : RefK) (b1 b2 b3 : Bool) (w : World) : Prop where
  pin : w = if b3 then W3 else if b2 then W2 else if b1 then W1 else W0
  box : w.heap[n]? = some (.cells #[.int .i64 r.1.1, .int .u32 r.1.2] 30)
  hd : w.heap[p]? = some (.cells #[(if b3 then v' else rv), wv, .int .i64 tk] 49 (0, 0))

section
variable {w : World} {p : Nat} {rv wv : Value} {l : List (RefK × Wd)} {tk : Int}

set_option maxRecDepth 20000 in
set_option maxHeartbeats 4000000 in
theorem radd_yes (h : RAt w p rv wv l tk) (r : RefK) (hn : l.length ≤ 10000) (hr : okRef r = true) (hl : lkp l r = none) : Calls Try.prog 37 #[.pointer (some ⟨p, 0, none⟩), .agg #[.int .i64 r.1.1, .int .u32 r.1.2]] w fun e w' => ∃ rv' wv', e = .returned (.int .i64 0) ∧ RAt w' p rv' wv' (l ++ [(r, w0)]) tk ∧ Mod (ROwn p rv wv) w w' ∧
    (∀ g, rv'.ownBlock = some g → rv.ownBlock = some g ∨ w.heap.size ≤ g) ∧ (∀ g, wv'.ownBlock = some g → wv.ownBlock = some g ∨ w.heap.size ≤ g) := by
  obtain ⟨it, hit, hzi, hszi, hbyi⟩ := info_parts (P := Try.prog) (e := 30) (z := .agg #[.int .i64 0, .int .u32 0]) (size := 2) (bytes := 16) (by kernel_rfl)
  obtain ⟨iw, hiw, hzw, hszw, hbyw⟩ := info_parts (P := Try.prog) (e := 24) (z := .int .u64 0) (size := 1) (bytes := 8) (by kernel_rfl)
  have HIT := hid (And.intro hit (And.intro hzi (And.intro hszi hbyi)))
  have HIW := hid (And.intro hiw (And.intro hzw (And.intro hszw hbyw)))
  clear hit hzi hszi hbyi hiw hzw hszw hbyw
  have HA := hid (h.alloc (.cells #[.int .i64 r.1.1, .int .u32 r.1.2] 30))
  have HN := hid (heap_new w (.cells #[.int .i64 r.1.1, .int .u32 r.1.2] 30))
  have HB0 : Hid (Below w.heap.size w (w.alloc (.cells #[.int .i64 r.1.1, .int .u32 r.1.2] 30))) := hid ((Below.refl _ _).alloc (Nat.le_refl _) _)
  have hidx : idx l r = none := by
    cases hx : idx l r with
    | none => rfl
    | some n => obtain ⟨⟨y, _, hy⟩, _⟩ := idx_some hx; rw [hl] at hy; cases hy
  have R := at_any HA.out r (by omega)
  rw [hidx] at R
  have HAT := hid R
  have n0 := cell_of HN.out 0
  have n1 := cell_of HN.out 1
  simp only [okRef, Bool.and_eq_true, decide_eq_true_eq] at hr
  obtain ⟨⟨h1, h2⟩, h3⟩ := hr
  have g1 : decide (r.1.1 < 0) = false := by simp; omega
  have g2 : decide (r.1.1 > 4095) = false := by simp; omega
  have g2' : decide (4095 < r.1.1) = false := by simp; omega
  have g3 : decide (r.1.2 < 1) = false := by simp; omega
  have hpl := h.lt
  have hrlt : ∀ g, rv.ownBlock = some g → g < w.heap.size := fun g hg => (World.ownsRow.lt h.rs g hg).2
  clear h R hidx hl h1 h2 h3
  go_enter Try.func37, Try.ntmps37
  go_wp2_with (go_at_call 56; refine HAT.out.mono ?_; rintro e w1 ⟨rfl, hb1⟩)
  have hK := (HA.out.keep hb1)
  have hN1 := blk_below HN.out hb1 (by simp)
  have hB := below_chain HB0.out hb1 HB0.out.size
  clear hb1 HA HN HB0 HAT n0 n1 g1 g2 g2' g3
  -- the worlds
  have hK0 : RAt w1.drew p rv wv l tk := ⟨hK.hd, hK.rs, hK.ws⟩
  have hK1 := hK0.alloc (.cells #[.int .i64 r.1.1, .int .u32 r.1.2] 30)
  have hN1b : (w1.drew.alloc (.cells #[.int .i64 r.1.1, .int .u32 r.1.2] 30)).heap[w1.drew.heap.size]? = some (.cells #[.int .i64 r.1.1, .int .u32 r.1.2] 30) := heap_new _ _
  obtain ⟨v', W2, hrun, hO2, hG2, _, hloc⟩ := run_append_own_at (P := Try.prog) (w1.drew.alloc (.cells #[.int .i64 r.1.1, .int .u32 r.1.2] 30)) 0 46 46 30 it _ 2 16 Try.underlying46 HIT.out.1 HIT.out.2.1 HIT.out.2.2.1 HIT.out.2.2.2 rfl (by decide) rv l.length (refsOf l) hK1.rs ⟨w1.drew.heap.size, 0, none⟩ 1 1 [.int .i64 r.1.1, .int .u32 r.1.2] rfl (news2 _ _ _ _ _ hN1b) (by simp [Value.oneCell']) (by simp [maxLen]; omega) (by omega) (Nat.zero_le _)
  have hM2 := mod_grown hG2
  have nrp : ∀ g, rv.ownBlock = some g → g ≠ p := own_ty hK1.rs hK1.hd (by decide)
  have hp2 : W2.heap[p]? = some (.cells #[rv, wv, .int .i64 tk] 49 (0, 0)) := (hM2.block p hK1.lt (fun e => nrp p e rfl)).trans hK1.hd
  have hN1a : (w1.drew.alloc (.cells #[.int .i64 r.1.1, .int .u32 r.1.2] 30)).heap[w.heap.size]? = some (.cells #[.int .i64 r.1.1, .int .u32 r.1.2] 30) := blk_alloc (w := w1.drew) hN1
  have hN2 : W2.heap[w.heap.size]? = some (.cells #[.int .i64 r.1.1, .int .u32 r.1.2] 30) := (hM2.block _ (lt_of_block hN1a) (fun e => absurd (hrlt _ e) (Nat.lt_irrefl _))).trans hN1a
  have hws2 : W2.ownsRow 0 24 1 wv l.length (wordsOf l) := own_same hK1.ws fun g hg => hM2.block g (World.ownsRow.lt hK1.ws g hg).2 (fun e => hK1.rw_ne g e hg)
  have hO2' : W2.ownsRow 0 30 2 v' (l.length + 1) (refsOf (l ++ [(r, w0)])) := by rw [refsOf_app]; exact hO2
  have nvp : ∀ g, v'.ownBlock = some g → g ≠ p := own_ty hO2 hp2 (by decide)
  have nwp : ∀ g, wv.ownBlock = some g → g ≠ p := own_ty hws2 hp2 (by decide)
  have hp3 : (W2.setCell ⟨p, 0, none⟩ v').heap[p]? = some (.cells #[v', wv, .int .i64 tk] 49 (0, 0)) := (heap_set hp2).trans (by simp)
  have hN3 : (W2.setCell ⟨p, 0, none⟩ v').heap[w.heap.size]? = some (.cells #[.int .i64 r.1.1, .int .u32 r.1.2] 30) := (Below.heap_setCell _ _ _ _ (by simp; omega)).trans hN2
  have hO3 : (W2.setCell ⟨p, 0, none⟩ v').ownsRow 0 30 2 v' (l.length + 1) (refsOf (l ++ [(r, w0)])) := own_same hO2' fun g hg => Below.heap_setCell _ _ _ _ (nvp g hg)
  have hws3 : (W2.setCell ⟨p, 0, none⟩ v').ownsRow 0 24 1 wv l.length (wordsOf l) := own_same hws2 fun g hg => Below.heap_setCell _ _ _ _ (nwp g hg)
  have hM1 : Mod (ROwn p rv wv) w (w1.drew.alloc (.cells #[.int .i64 r.1.1, .int .u32 r.1.2] 30)) := (Mod.ofBelow (S := ROwn p rv wv) hB).drew.alloc _
  have hM3 : Mod (ROwn p rv wv) w (W2.setCell ⟨p, 0, none⟩ v') := Mod.setCell (hM1.trans hM2 (fun _ _ e => .inr (.inl e))) (.inl (.inl rfl)) _
  have hvl : ∀ g, v'.ownBlock = some g → rv.ownBlock = some g ∨ w.heap.size ≤ g := fun g hg => by
    rcases hloc with e | e
    · exact .inl (e ▸ hg)
    · rw [e] at hg
      have h5 : (w1.drew.alloc (.cells #[.int .i64 r.1.1, .int .u32 r.1.2] 30)).heap.size = g := by simpa using hg
      have h7 : (w1.drew.alloc (.cells #[.int .i64 r.1.1, .int .u32 r.1.2] 30)).heap.size = w1.heap.size + 1 := by simp
      have := hB.size
      exact .inr (by omega)
  obtain ⟨a5, c5, rfl, _⟩ := row_form hO2
  have S0 : AddMid w1.drew (w1.drew.alloc (.cells #[.int .i64 r.1.1, .int .u32 r.1.2] 30)) W2 (W2.setCell ⟨p, 0, none⟩ (Value.slice a5 (l.length + 1) c5)) p w.heap.size rv (Value.slice a5 (l.length + 1) c5) wv tk r false false false w1.drew := ⟨rfl, hN1, hK0.hd⟩
  have S1 : AddMid w1.drew (w1.drew.alloc (.cells #[.int .i64 r.1.1, .int .u32 r.1.2] 30)) W2 (W2.setCell ⟨p, 0, none⟩ (Value.slice a5 (l.length + 1) c5)) p w.heap.size rv (Value.slice a5 (l.length + 1) c5) wv tk r true false false (w1.drew.alloc (.cells #[.int .i64 r.1.1, .int .u32 r.1.2] 30)) := ⟨rfl, hN1a, hK1.hd⟩
  have S2 : AddMid w1.drew (w1.drew.alloc (.cells #[.int .i64 r.1.1, .int .u32 r.1.2] 30)) W2 (W2.setCell ⟨p, 0, none⟩ (Value.slice a5 (l.length + 1) c5)) p w.heap.size rv (Value.slice a5 (l.length + 1) c5) wv tk r true true false W2 := ⟨rfl, hN2, hp2⟩
  have S3 : AddMid w1.drew (w1.drew.alloc (.cells #[.int .i64 r.1.1, .int .u32 r.1.2] 30)) W2 (W2.setCell ⟨p, 0, none⟩ (Value.slice a5 (l.length + 1) c5)) p w.heap.size rv (Value.slice a5 (l.length + 1) c5) wv tk r true true true (W2.setCell ⟨p, 0, none⟩ (Value.slice a5 (l.length + 1) c5)) := ⟨rfl, hN3, hp3⟩
  have HRUN := hid hrun
  have HS0 := hid S0
  have HS1 := hid S1
  have HS2 := hid S2
  have HS3 := hid S3
  have HP3 := hid hp3
  have HO3 := hid hO3
  have HW3 := hid hws3
  have HM3 := hid hM3
  have HVL := hid hvl
  have HWL := hid (fun g hg => (World.ownsRow.lt hK.ws g hg).2)
  clear hrun S0 S1 S2 S3 hp2 hN2 hws2 hO2 hO2' nvp nwp hp3 hN3 hO3 hws3 hM1 hM2 hM3 hloc hvl hK1 hK0 hN1b hN1a hG2 nrp hK hN1 hB hrlt
  go_wp2_with fail
  refine wp_region_seqC 11 (Turn4 6 7 10 99 (fun b1 b2 b3 _ w2 => AddMid w1.drew (w1.drew.alloc (.cells #[.int .i64 r.1.1, .int .u32 r.1.2] 30)) W2 (W2.setCell ⟨p, 0, none⟩ (Value.slice a5 (l.length + 1) c5)) p w.heap.size rv (Value.slice a5 (l.length + 1) c5) wv tk r b1 b2 b3 w2)) (by kernel_rfl) (by kernel_rfl) (by kernel_rfl) (Turn4.start HS0.out) ?_
  dsimp only [List.take]
  iterate 4
    refine Seq4.calm (a' := ?_) (by decide) (by decide) (by decide) (by decide) ?_ ?_ ?_
    rotate_left
    ·
      intro b1 b2 b3 b4 w1 e1 f1 e2 f2 e3 f3 e4 f4 hw1
      skip
      have HW1 := hid hw1
      have n0 := cell_of hw1.box 0
      have n1 := cell_of hw1.box 1
      have c0 := cell_of hw1.hd 0
      have c1 := cell_of hw1.hd 1
      clear hw1 e1 f1 e2 f2 e3 f3 e4 f4
      go_wp2_with fail
      refine ⟨?_, HW1.out⟩
      exact rfl
    · kernel_rfl
  refine Seq4.calm (a' := ?_) (by decide) (by decide) (by decide) (by decide) ?_ ?_ ?_
  rotate_left
  ·
    intro b1 b2 b3 b4 w1 e1 f1 e2 f2 e3 f3 e4 f4 hw1
    obtain rfl := e3 (by kernel_rfl)
    have HW1 := hid hw1
    have n0 := cell_of hw1.box 0
    have n1 := cell_of hw1.box 1
    have c0 := cell_of hw1.hd 0
    have c1 := cell_of hw1.hd 1
    clear hw1 e1 f1 e2 f2 e3 f3 e4 f4
    go_wp2_with fail
    refine ⟨?_, HW1.out⟩
    exact rfl
  · kernel_rfl
  refine Seq4.calm (a' := ?_) (by decide) (by decide) (by decide) (by decide) ?_ ?_ ?_
  rotate_left
  ·
    intro b1 b2 b3 b4 w1 e1 f1 e2 f2 e3 f3 e4 f4 hw1
    skip
    have HW1 := hid hw1
    have n0 := cell_of hw1.box 0
    have n1 := cell_of hw1.box 1
    have c0 := cell_of hw1.hd 0
    have c1 := cell_of hw1.hd 1
    clear hw1 e1 f1 e2 f2 e3 f3 e4 f4
    go_wp2_with fail
    refine ⟨?_, HW1.out⟩
    exact rfl
  · kernel_rfl
  refine Seq4.at1 (a' := ?_) (by decide) (by decide) (by decide) ?_ ?_ ?_
  rotate_left
  ·
    intro b2 b3 b4 w2 e2 f2 e3 f3 e4 f4 hw1
    obtain rfl := e2 (by kernel_rfl)
    obtain rfl := e3 (by kernel_rfl)
    obtain rfl : w2 = w1.drew := hw1.pin
    clear hw1 e2 f2 e3 f3 e4 f4
    go_wp2_with fail
    refine ⟨?_, HS1.out⟩
    exact rfl
  · kernel_rfl
  refine Seq4.at2 (a' := ?_) (by decide) (by decide) (by decide) ?_ ?_ ?_
  rotate_left
  ·
    intro b1 b3 b4 w2 e1 f1 e3 f3 e4 f4 hw1
    obtain rfl := f1 (by kernel_rfl)
    obtain rfl := e3 (by kernel_rfl)
    obtain rfl : w2 = w1.drew.alloc (.cells #[.int .i64 r.1.1, .int .u32 r.1.2] 30) := hw1.pin
    clear hw1 e1 f1 e3 f3 e4 f4
    refine wpList_append_run rfl _ _ _ rfl _ _ (Value.slice a5 (l.length + 1) c5) W2 rfl rfl HRUN.out ?_
    refine ⟨?_, HS2.out⟩
    exact rfl
  · kernel_rfl
  iterate 2
    refine Seq4.calm (a' := ?_) (by decide) (by decide) (by decide) (by decide) ?_ ?_ ?_
    rotate_left
    ·
      intro b1 b2 b3 b4 w1 e1 f1 e2 f2 e3 f3 e4 f4 hw1
      skip
      have HW1 := hid hw1
      have n0 := cell_of hw1.box 0
      have n1 := cell_of hw1.box 1
      have c0 := cell_of hw1.hd 0
      have c1 := cell_of hw1.hd 1
      clear hw1 e1 f1 e2 f2 e3 f3 e4 f4
      go_wp2_with fail
      refine ⟨?_, HW1.out⟩
      exact rfl
    · kernel_rfl
  refine Seq4.at3 (a' := ?_) (by decide) (by decide) (by decide) ?_ ?_ ?_
  rotate_left
  ·
    intro b1 b2 b4 w2 e1 f1 e2 f2 e4 f4 hw1
    obtain rfl := f1 (by kernel_rfl)
    obtain rfl := f2 (by kernel_rfl)
    obtain rfl : w2 = W2 := hw1.pin
    have c0 := cell_of hw1.hd 0
    have cf := free_of hw1.hd
    clear hw1 e1 f1 e2 f2 e4 f4
    go_wp2_with fail
    refine ⟨?_, HS3.out⟩
    exact rfl
  · kernel_rfl
  refine SeqC.nil ?_
  intro D w2 hD hI
  obtain ⟨_, hI⟩ := hI.done3 (hD 6 (by omega)) (hD 7 (by omega)) (hD 10 (by omega))
  obtain rfl : w2 = W2.setCell ⟨p, 0, none⟩ (Value.slice a5 (l.length + 1) c5) := hI.pin
  clear hD hI HS0 HS1 HS2 HS3 HRUN
  generalize W2.setCell ⟨p, 0, none⟩ (Value.slice a5 (l.length + 1) c5) = W3 at *
  dsimp only [List.drop]
  have c0 := cell_of HP3.out 0
  have c1 := cell_of HP3.out 1
  have cf := free_of HP3.out
  have cl := lt_of_block HP3.out
  have hO4 : (W3.alloc (.cells #[.int .u64 0] 24)).ownsRow 0 24 1 wv l.length (wordsOf l) := World.ownsRow.alloc HW3.out _
  have hn4 : (W3.alloc (.cells #[.int .u64 0] 24)).heap[W3.heap.size]? = some (.cells #[.int .u64 0] 24) := heap_new _ _
  have HO4 := hid hO4
  have HN4 := hid (news1 _ _ _ _ hn4)
  clear hO4 hn4
  go_wp2_with (at_builtin; go_loud (refine wpList_append_own_at _ rfl (.tmp 36) (.tmp 37) 47 rfl 0 24 iw _ 1 8 Try.underlying47 HIW.out.1 HIW.out.2.1 HIW.out.2.2.1 HIW.out.2.2.2 rfl (by decide) wv l.length (wordsOf l) rfl HO4.out ⟨W3.heap.size, 0, none⟩ 1 1 [.int .u64 0] rfl rfl HN4.out (by simp [Value.oneCell']) (by simp [maxLen]; omega) (by omega) (Nat.zero_le _) ?_))
  intro v6 W6 hO6 hG6 _ hloc6
  obtain ⟨a6, c6, rfl, _⟩ := row_form hO6
  have hM6 := mod_grown hG6
  have nwp : ∀ g, wv.ownBlock = some g → g ≠ p := own_ty HW3.out HP3.out (by decide)
  have hp6 : W6.heap[p]? = some (.cells #[(Value.slice a5 (l.length + 1) c5), wv, .int .i64 tk] 49 (0, 0)) := (hM6.block p (by simp; omega) (fun e => nwp p e rfl)).trans (blk_alloc HP3.out)
  have hR3 : RAt W3 p (Value.slice a5 (l.length + 1) c5) wv l tk → True := fun _ => trivial
  have hrw : ∀ g, ((Value.slice a5 (l.length + 1) c5)).ownBlock = some g → wv.ownBlock ≠ some g := by
    intro g h1 h2
    rcases HW3.out.2 with ⟨e, _⟩ | ⟨g', cap', cur, e, _, hh, _⟩
    · rw [e] at h2; cases h2
    · rw [e] at h2
      simp [Value.ownBlock] at h2
      subst h2
      exact own_ty HO3.out hh (by decide) g' h1 rfl
  have hrs6 : W6.ownsRow 0 30 2 (Value.slice a5 (l.length + 1) c5) (l.length + 1) (refsOf (l ++ [(r, w0)])) := own_same HO3.out fun g hg => (hM6.block g (by have := (World.ownsRow.lt HO3.out g hg).2; simp; omega) (fun e => hrw g hg e)).trans (Below.heap_alloc _ _ _ (World.ownsRow.lt HO3.out g hg).2)
  have hws6 : W6.ownsRow 0 24 1 (.slice a6 (l.length + 1) c6) (l.length + 1) (wordsOf (l ++ [(r, w0)])) := by rw [wordsOf_app]; exact hO6
  have n1 : ∀ g, ((Value.slice a5 (l.length + 1) c5)).ownBlock = some g → g ≠ p := own_ty hrs6 hp6 (by decide)
  have n2 : ∀ g, (Value.slice a6 (l.length + 1) c6).ownBlock = some g → g ≠ p := own_ty hws6 hp6 (by decide)
  have hfin : RAt (W6.setCell ⟨p, 1, none⟩ (.slice a6 (l.length + 1) c6)) p (Value.slice a5 (l.length + 1) c5) (.slice a6 (l.length + 1) c6) (l ++ [(r, w0)]) tk := by
    refine ⟨(heap_set hp6).trans (by simp), ?_, ?_⟩
    · have := own_same (w' := W6.setCell ⟨p, 1, none⟩ (.slice a6 (l.length + 1) c6)) hrs6 fun g hg => Below.heap_setCell _ _ _ _ (n1 g hg)
      simpa using this
    · have := own_same (w' := W6.setCell ⟨p, 1, none⟩ (.slice a6 (l.length + 1) c6)) hws6 fun g hg => Below.heap_setCell _ _ _ _ (n2 g hg)
      simpa using this
  have hMf : Mod (ROwn p rv wv) w (W6.setCell ⟨p, 1, none⟩ (.slice a6 (l.length + 1) c6)) := Mod.setCell ((HM3.out.alloc _).trans hM6 (fun _ _ e => .inr (.inr e))) (.inl (.inl rfl)) _
  have hwl : ∀ g, (Value.slice a6 (l.length + 1) c6).ownBlock = some g → wv.ownBlock = some g ∨ w.heap.size ≤ g := fun g hg => by
    rcases hloc6 with e | e
    · exact .inl (e ▸ hg)
    · rw [e] at hg
      have h5 : W3.heap.size + 1 = g := by simpa using hg
      have := HM3.out.size
      exact .inr (by omega)
  have HFIN := hid hfin
  have HMF := hid hMf
  have HWLF := hid hwl
  have c0 := cell_of hp6 0
  have c1 := cell_of hp6 1
  have cf := free_of hp6
  have cl := lt_of_block hp6
  clear hO6 hG6 hloc6 hM6 hp6 hR3 hrw hrs6 hws6 n1 n2 hfin hMf hwl HO4 HN4 HP3 HO3 HW3 HM3
  go_wp2_with fail
  go_ret
  exact ⟨_, _, rfl, HFIN.out, HMF.out, HVL.out, HWLF.out⟩

theorem radd_bad (h : RAt w p rv wv l tk) (r : RefK) (hr : okRef r = false) : Calls Try.prog 37 #[.pointer (some ⟨p, 0, none⟩), .agg #[.int .i64 r.1.1, .int .u32 r.1.2]] w fun e w' => e = .returned (.int .i64 2) ∧ RAt w' p rv wv l tk ∧ Mod (ROwn p rv wv) w w' := by
  have HK := hid h
  have hN := heap_new w (.cells #[.int .i64 r.1.1, .int .u32 r.1.2] 30)
  have n0 := cell_of hN 0
  have n1 := cell_of hN 1
  clear h hN
  by_cases h1 : 0 ≤ r.1.1
  · have g1 : decide (r.1.1 < 0) = false := by simp; omega
    by_cases h2 : r.1.1 < 4096
    · have g2 : decide (4095 < r.1.1) = false := by simp; omega
      have g3 : decide (r.1.2 < 1) = true := by
        simp only [okRef, h1, h2, decide_true, Bool.true_and, decide_eq_false_iff_not] at hr
        simp; omega
      clear hr h1 h2
      go_enter Try.func37, Try.ntmps37
      go_wp2_with fail
      go_ret
      exact ⟨rfl, HK.out.keep (by (repeat (first | exact Below.refl _ _ | assumption | with_reducible refine Below.drew ?_ | with_reducible refine below_drewN ?_ | with_reducible refine Below.setCell ?_ (by first | (simp; done) | (simp; omega)) _ | with_reducible refine Below.alloc ?_ (by first | exact Nat.le_refl _ | (simp; done) | (simp; omega)) _))), Mod.ofBelow (by (repeat (first | exact Below.refl _ _ | assumption | with_reducible refine Below.drew ?_ | with_reducible refine below_drewN ?_ | with_reducible refine Below.setCell ?_ (by first | (simp; done) | (simp; omega)) _ | with_reducible refine Below.alloc ?_ (by first | exact Nat.le_refl _ | (simp; done) | (simp; omega)) _)))⟩
    · have g2 : decide (4095 < r.1.1) = true := by simp; omega
      clear hr h1 h2
      go_enter Try.func37, Try.ntmps37
      go_wp2_with fail
      go_ret
      exact ⟨rfl, HK.out.keep (by (repeat (first | exact Below.refl _ _ | assumption | with_reducible refine Below.drew ?_ | with_reducible refine below_drewN ?_ | with_reducible refine Below.setCell ?_ (by first | (simp; done) | (simp; omega)) _ | with_reducible refine Below.alloc ?_ (by first | exact Nat.le_refl _ | (simp; done) | (simp; omega)) _))), Mod.ofBelow (by (repeat (first | exact Below.refl _ _ | assumption | with_reducible refine Below.drew ?_ | with_reducible refine below_drewN ?_ | with_reducible refine Below.setCell ?_ (by first | (simp; done) | (simp; omega)) _ | with_reducible refine Below.alloc ?_ (by first | exact Nat.le_refl _ | (simp; done) | (simp; omega)) _)))⟩
  · have g1 : decide (r.1.1 < 0) = true := by simp; omega
    clear hr h1
    go_enter Try.func37, Try.ntmps37
    go_wp2_with fail
    go_ret
    exact ⟨rfl, HK.out.keep (by (repeat (first | exact Below.refl _ _ | assumption | with_reducible refine Below.drew ?_ | with_reducible refine below_drewN ?_ | with_reducible refine Below.setCell ?_ (by first | (simp; done) | (simp; omega)) _ | with_reducible refine Below.alloc ?_ (by first | exact Nat.le_refl _ | (simp; done) | (simp; omega)) _))), Mod.ofBelow (by (repeat (first | exact Below.refl _ _ | assumption | with_reducible refine Below.drew ?_ | with_reducible refine below_drewN ?_ | with_reducible refine Below.setCell ?_ (by first | (simp; done) | (simp; omega)) _ | with_reducible refine Below.alloc ?_ (by first | exact Nat.le_refl _ | (simp; done) | (simp; omega)) _)))⟩

theorem radd_twice (h : RAt w p rv wv l tk) (r : RefK) (hn : l.length ≤ 10000) (hr : okRef r = true) (hl : (lkp l r).isSome = true) : Calls Try.prog 37 #[.pointer (some ⟨p, 0, none⟩), .agg #[.int .i64 r.1.1, .int .u32 r.1.2]] w fun e w' => e = .returned (.int .i64 8) ∧ RAt w' p rv wv l tk ∧ Mod (ROwn p rv wv) w w' := by
  have HA := hid (h.alloc (.cells #[.int .i64 r.1.1, .int .u32 r.1.2] 30))
  have HN := hid (heap_new w (.cells #[.int .i64 r.1.1, .int .u32 r.1.2] 30))
  have HB0 : Hid (Below w.heap.size w (w.alloc (.cells #[.int .i64 r.1.1, .int .u32 r.1.2] 30))) := hid ((Below.refl _ _).alloc (Nat.le_refl _) _)
  obtain ⟨n, hidx⟩ : ∃ n, idx l r = some n := by
    cases hx : idx l r with
    | none => rw [(idx_none hx).1] at hl; cases hl
    | some n => exact ⟨n, rfl⟩
  have R := at_any HA.out r (by omega)
  rw [hidx] at R
  have HAT := hid R
  have HH := hid h
  have n0 := cell_of HN.out 0
  have n1 := cell_of HN.out 1
  simp only [okRef, Bool.and_eq_true, decide_eq_true_eq] at hr
  obtain ⟨⟨h1, h2⟩, h3⟩ := hr
  have g1 : decide (r.1.1 < 0) = false := by simp; omega
  have g2' : decide (4095 < r.1.1) = false := by simp; omega
  have g3 : decide (r.1.2 < 1) = false := by simp; omega
  have g4 : decide (0 ≤ (n : Int)) = true := by simp
  clear h R hidx hl h1 h2 h3
  go_enter Try.func37, Try.ntmps37
  go_wp2_with (go_at_call 56; refine HAT.out.mono ?_; rintro e w1 ⟨rfl, hb1⟩)
  go_ret
  have hB := below_chain HB0.out hb1 HB0.out.size
  exact ⟨rfl, HH.out.keep hB, Mod.ofBelow hB⟩

/-- Add, whatever the Ref. -/
theorem radd_any (h : RAt w p rv wv l tk) (r : RefK) (hn : l.length ≤ 10000) : Calls Try.prog 37 #[.pointer (some ⟨p, 0, none⟩), .agg #[.int .i64 r.1.1, .int .u32 r.1.2]] w fun e w' => ∃ rv' wv', e = .returned (.int .i64 (addL l r).1) ∧ RAt w' p rv' wv' (addL l r).2 tk ∧ Mod (ROwn p rv wv) w w' ∧
    (∀ g, rv'.ownBlock = some g → rv.ownBlock = some g ∨ w.heap.size ≤ g) ∧ (∀ g, wv'.ownBlock = some g → wv.ownBlock = some g ∨ w.heap.size ≤ g) := by
  unfold addL
  cases hr : okRef r
  · simp only [Bool.false_eq_true, if_false]
    exact (radd_bad h r hr).mono fun e w' ⟨h1, h2, h3⟩ => ⟨rv, wv, h1, h2, h3, fun g hg => .inl hg, fun g hg => .inl hg⟩
  · simp only [if_true]
    cases hl : (lkp l r).isSome
    · simp only [Bool.false_eq_true, if_false]
      exact radd_yes h r hn hr (by cases hx : lkp l r with | none => rfl | some y => rw [hx] at hl; cases hl)
    · simp only [if_true]
      exact (radd_twice h r hn hr hl).mono fun e w' ⟨h1, h2, h3⟩ => ⟨rv, wv, h1, h2, h3, fun g hg => .inl hg, fun g hg => .inl hg⟩
end
end Go.Proofs.Ytofkodfdgbjboaa
