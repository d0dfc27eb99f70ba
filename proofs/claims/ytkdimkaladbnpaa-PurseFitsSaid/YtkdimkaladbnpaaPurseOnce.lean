/- PurseOnce: the walk. -/
import Derived.Test.YtkdimkaladbnpaaPurse9
namespace Go.Proofs.Ytkdimkaladbnpaa
open Go.ChangeShapes Go.WideShapes Go.ChangeAt Go.RowKit Go.Burg
open Go.Burg.Purse (St Inv wrap_in big)

/-- A slice of deeds that came in. -/
def DeedsAt (w : World) (a : Option Addr) (len : Nat) (ds : Nat → Int × Int × Int × Int) : Prop :=
  0 < len → ∃ bl off, a = some ⟨bl, off, none⟩ ∧ bl < w.heap.size ∧ ∀ i, i < len → (w.cell? ⟨bl, off + i * 4, none⟩ = some (.int .i64 (ds i).1) ∧ w.cell? ⟨bl, off + i * 4 + 1, none⟩ = some (.int .i64 (ds i).2.1) ∧
    w.cell? ⟨bl, off + i * 4 + 2, none⟩ = some (.int .u64 (ds i).2.2.1) ∧ w.cell? ⟨bl, off + i * 4 + 3, none⟩ = some (.int .u64 (ds i).2.2.2)) ∧ 0 ≤ (ds i).2.2.1 ∧ 0 ≤ (ds i).2.2.2

theorem max_act {s : St} (hi : Inv s) (p t k y : Int) : (if s.last < (s.act p t k y).1 then (s.act p t k y).1 else s.last) = (s.act p t k y).2.2.last ∧ (s.act p t k y).2.2.last ≤ s.last + 1 := by
  have h0 := hi.last
  have c1 : (s.com t).2.last = s.last := by unfold St.com; split <;> rfl
  have c2 : (s.ref t).2.last = s.last := by unfold St.ref; split <;> rfl
  have c3 : (s.take k y).2.last = s.last := by unfold St.take; split <;> rfl
  have c4 : (s.pay k y).2.last = s.last := by unfold St.pay; split <;> rfl
  have c5 : (if s.last < (s.res k y).1 then (s.res k y).1 else s.last) = (s.res k y).2.2.last ∧ (s.res k y).2.2.last ≤ s.last + 1 := by
    unfold St.res
    split
    · simp only [Int.lt_succ, if_true, Int.le_refl, and_self]
    · rw [if_neg (by simp only; omega)]; exact ⟨rfl, by simp only; omega⟩
  have c0 : ¬ s.last < 0 := by omega
  unfold St.act
  split
  · simp only [c1]; exact ⟨trivial, by omega⟩
  · split
    · simp only [c2]; exact ⟨trivial, by omega⟩
    · split
      · simp only [c3]; exact ⟨trivial, by omega⟩
      · split
        · simp only [c4]; exact ⟨trivial, by omega⟩
        · exact c5

/-- A ticket for nothing can be opened, and closed once. -/
theorem closed_once {s : St} (hi : Inv s) : ∃ s1, s.res 0 0 = (s.last + 1, 0, s1) ∧ Inv s1 ∧
    (∃ s2, s1.com (s.last + 1) = (0, s2) ∧ Inv s2 ∧ ∀ t, ¬ (1 ≤ t ∧ t ≤ s.last) → s2.com t = (5, s2) ∧ s2.ref t = (5, s2)) ∧
    (∃ s2, s1.ref (s.last + 1) = (0, s2) ∧ Inv s2 ∧ ∀ t, ¬ (1 ≤ t ∧ t ≤ s.last) → s2.com t = (5, s2) ∧ s2.ref t = (5, s2)) := by
  have hk := hi.fk; have hb := hi.fb
  have hf : s.fits 0 0 := ⟨by omega, by omega⟩
  have h1 := hi.res (k := 0) (y := 0) (Int.le_refl _) (Int.le_refl _)
  have e1 : s.res 0 0 = (s.last + 1, 0, { s with kk := s.kk + 0, kb := s.kb + 0, last := s.last + 1, l := s.l ++ [(s.last + 1, 0, 0)] }) := if_pos hf
  rw [e1] at h1
  refine ⟨_, e1, h1, ?_⟩
  have hl : (s.l ++ [(s.last + 1, (0 : Int), (0 : Int))]).lookup (s.last + 1) = some (0, 0) := by
    refine lookup_at h1.nod (j := s.l.length) ?_
    simp
  have hn : ∀ t, ¬ (1 ≤ t ∧ t ≤ s.last) → (delKV (s.l ++ [(s.last + 1, (0 : Int), (0 : Int))]) (s.last + 1)).lookup t = none := fun t ht => lookup_none.2 fun x hx => by
    have hx1 := Purse.del_mem hx
    have hx2 : x.1 ≠ s.last + 1 := by
      have := (List.mem_filter.1 hx).2
      simpa using this
    rcases List.mem_append.1 hx1 with h | h
    · have := hi.ent x h
      intro e
      exact ht ⟨by omega, by omega⟩
    · simp at h
      subst h
      exact absurd rfl hx2
  constructor
  · have h2 := h1.com (s.last + 1)
    simp only [St.com, hl] at h2 ⊢
    refine ⟨_, rfl, h2, fun t ht => ?_⟩
    simp only [St.ref, hn t ht, and_self]
  · have h2 := h1.ref (s.last + 1)
    simp only [St.ref, hl] at h2 ⊢
    refine ⟨_, rfl, h2, fun t ht => ?_⟩
    simp only [St.com, hn t ht, and_self]

/-- What stands at the head of a round. -/
def Rel (w : World) (b m : Nat) (k : Nat) (s : St) (wr : World) : Prop :=
  PurseAt wr b m s ∧ Inv s ∧ s.last ≤ k ∧ Mod (fun i => w.heap.size ≤ i) w wr

set_option maxHeartbeats 1000000 in
theorem once_any (lk lb : Int) (a : Option Addr) (len cap : Nat) (ds : Nat → Int × Int × Int × Int) (keep : Bool) (other : Int) (w : World) (hD : DeedsAt w a len ds) (h1 : 0 ≤ lk) (h2 : lk ≤ big) (h3 : 0 ≤ lb) (h4 : lb ≤ big) :
    Calls Try.prog 3 #[.agg #[.int .u64 lk, .int .u64 lb], .slice a len cap, .bool keep, .int .i64 other] w fun e w' => e = .returned (.bool true) ∧ Below w.heap.size w w' := by
  have HI := hid (Purse.Inv.new h1 h2 h3 h4)
  clear h1 h2 h3 h4
  go_enter Try.func3, Try.ntmps3
  go_wp2_with fail
  refine (awake_any _).mono ?_
  rintro e w1 ⟨rfl, hB⟩
  have hM1 : Mod (fun i => w.heap.size ≤ i) w w1 := mod_bel ((Mod.refl _ _).alloc _) hB
  have hN := blk_below (heap_new w (.cells #[.int .u64 lk, .int .u64 lb] 24)) hB (by simp)
  have n0 := cell_of hN 0
  have n1 := cell_of hN 1
  clear hB
  go_wp2_with fail
  refine (new_at lk lb _).mono ?_
  rintro e w2 ⟨b, m, rfl, hP, hb, hm, hX⟩
  have hM2 := mod_bel hM1 hX
  have hb : w.heap.size ≤ b := Nat.le_trans hM1.size hb
  have hm : w.heap.size ≤ m := Nat.le_trans hM1.size hm
  clear hX hM1 n0 n1 hN
  have HR : Hid (Rel w b m 0 (St.new lk lb) w2) := hid ⟨hP, HI.out, Int.le_refl _, hM2⟩
  clear hP hM2
  go_wp2_with fail
  go_loopw [10, 11] (fun lv iv wr => ∃ (k : Nat) (s : St), k ≤ len ∧ k ≤ 100 ∧ iv = .int .i64 k ∧ lv = .int .i64 s.last ∧ Rel w b m k s wr) (fun _ iv _ => 100 - (intOf iv).toNat)
  case atStart => exact ⟨0, _, Nat.zero_le _, by omega, rfl, rfl, HR.out⟩
  case round =>
    clear HR
    obtain ⟨k, s, hk, hk2, rfl, rfl, hP, hi, hl, hM⟩ := hrel
    have HI := hid hi
    by_cases hlt : k < len ∧ k < 100
    · obtain ⟨hlt, hlt2⟩ := hlt
      obtain ⟨bl, off, ha, hbl, hall⟩ := hD (by omega)
      subst ha
      obtain ⟨⟨d0, d1, d2, d3⟩, hk0, hy0⟩ := hall k hlt
      generalize ds k = d at d0 d1 d2 d3 hk0 hy0
      obtain ⟨what, t, kk, yy⟩ := d
      simp only at d0 d1 d2 d3 hk0 hy0
      have hcell : ∀ j, wr.cell? ⟨bl, j, none⟩ = w.cell? ⟨bl, j, none⟩ := fun j => World.cell?_of_block (w := w) (hM.block bl hbl (by omega))
      have g0 := (hcell _).trans d0
      have g1 := (hcell _).trans d1
      have g2 := (hcell _).trans d2
      have g3 := (hcell _).trans d3
      have HA := hid (act_at hP hi (by omega) what t kk yy hk0 hy0)
      have HX := hid (max_act hi (what % 6) t kk yy)
      have HN := hid (hi.act hk0 hy0 (what % 6) t)
      have HL := hid hl
      have HM := hid hM
      clear hcell d0 d1 d2 d3 hall hk0 hy0 hi hP hl hM
      go_wp2_with (go_at_call 11; refine HA.out.mono ?_; rintro e w3 ⟨rfl, hP3, hX3⟩; have HP3 := hid hP3; have HX3 := hid hX3; clear hP3 hX3)
      all_goals
        have hx := HX.out
        go_roundw
        case rel => exact ⟨k + 1, _, by omega, by omega, by go_num, congrArg (Value.int .i64) (by have := hx.1; split at this <;> omega), HP3.out, HN.out, by have := HL.out; omega, mod_new HM.out HX3.out hb hm⟩
        case measure => simp [intOf]; omega
    · obtain ⟨s1, e1, i1, ⟨s2, e2, i2, c2⟩, ⟨s3, e3, i3, c3⟩⟩ := closed_once hi
      have R0 := reserve_at hP hi (by omega) 0 0 (Int.le_refl _) (Int.le_refl _)
      rw [e1] at R0
      have HR := hid R0
      have HM := hid hM
      have E2 := hid e2
      have E3 := hid e3
      have C2 := hid c2
      have C3 := hid c3
      have HL := hid hl
      have hlast : s.last < 4000000000 := by omega
      have hlast0 := hi.last
      clear hD hl hP hM R0 e1 e2 e3 c2 c3
      by_cases hkl : k < len
      · have hk3 : 100 ≤ k := by have : ¬ k < 100 := fun h => hlt ⟨hkl, h⟩
                                 omega
        clear hlt
        go_wp2_with fail
        refine HR.out.mono ?_
        rintro e w3 ⟨rfl, hP3, hX3⟩
        have HM3 := hid (mod_new HM.out hX3 hb hm)
        clear hX3
        cases keep
        · have R := refund_at hP3 i1 (s.last + 1)
          rw [E3.out] at R
          have HR4 := hid R
          clear R hP3
          go_wp2_with fail
          refine HR4.out.mono ?_
          rintro e w4 ⟨rfl, hP4, hX4⟩
          have HM4 := hid (mod_new HM3.out hX4 hb hm)
          clear hX4
          have R := commit_at hP4 i3 (s.last + 1)
          rw [(C3.out (s.last + 1) (by omega)).1] at R
          have HR5 := hid R
          clear R hP4
          go_wp2_with fail
          refine HR5.out.mono ?_
          rintro e w5 ⟨rfl, hP5, hX5⟩
          have HM5 := hid (mod_new HM4.out hX5 hb hm)
          have R := refund_at hP5 i3 (s.last + 1)
          rw [(C3.out (s.last + 1) (by omega)).2] at R
          have HR6 := hid R
          clear R hP5 hX5
          go_wp2_with fail
          refine HR6.out.mono ?_
          rintro e w6 ⟨rfl, hP6, hX6⟩
          have HM6 := hid (mod_new HM5.out hX6 hb hm)
          clear hX6
          by_cases o1 : 1 ≤ other
          · by_cases o2 : other ≤ s.last
            · go_wp2
              go_ret
              exact ⟨rfl, mod_end HM6.out⟩
            · have R := commit_at hP6 i3 other
              rw [(C3.out other (by omega)).1] at R
              have HR7 := hid R
              clear R hP6
              go_wp2_with fail
              refine HR7.out.mono ?_
              rintro e w7 ⟨rfl, hP7, hX7⟩
              have HM7 := hid (mod_new HM6.out hX7 hb hm)
              have R := refund_at hP7 i3 other
              rw [(C3.out other (by omega)).2] at R
              have HR8 := hid R
              clear R hP7 hX7
              go_wp2_with fail
              refine HR8.out.mono ?_
              rintro e w8 ⟨rfl, hP8, hX8⟩
              have HM8 := hid (mod_new HM7.out hX8 hb hm)
              clear hX8
              go_wp2
              go_ret
              exact ⟨rfl, mod_end HM8.out⟩
          · have R := commit_at hP6 i3 other
            rw [(C3.out other (by omega)).1] at R
            have HR7 := hid R
            clear R hP6
            go_wp2_with fail
            refine HR7.out.mono ?_
            rintro e w7 ⟨rfl, hP7, hX7⟩
            have HM7 := hid (mod_new HM6.out hX7 hb hm)
            have R := refund_at hP7 i3 other
            rw [(C3.out other (by omega)).2] at R
            have HR8 := hid R
            clear R hP7 hX7
            go_wp2_with fail
            refine HR8.out.mono ?_
            rintro e w8 ⟨rfl, hP8, hX8⟩
            have HM8 := hid (mod_new HM7.out hX8 hb hm)
            clear hX8
            go_wp2
            go_ret
            exact ⟨rfl, mod_end HM8.out⟩
        · have R := commit_at hP3 i1 (s.last + 1)
          rw [E2.out] at R
          have HR4 := hid R
          clear R hP3
          go_wp2_with fail
          refine HR4.out.mono ?_
          rintro e w4 ⟨rfl, hP4, hX4⟩
          have HM4 := hid (mod_new HM3.out hX4 hb hm)
          clear hX4
          have R := commit_at hP4 i2 (s.last + 1)
          rw [(C2.out (s.last + 1) (by omega)).1] at R
          have HR5 := hid R
          clear R hP4
          go_wp2_with fail
          refine HR5.out.mono ?_
          rintro e w5 ⟨rfl, hP5, hX5⟩
          have HM5 := hid (mod_new HM4.out hX5 hb hm)
          have R := refund_at hP5 i2 (s.last + 1)
          rw [(C2.out (s.last + 1) (by omega)).2] at R
          have HR6 := hid R
          clear R hP5 hX5
          go_wp2_with fail
          refine HR6.out.mono ?_
          rintro e w6 ⟨rfl, hP6, hX6⟩
          have HM6 := hid (mod_new HM5.out hX6 hb hm)
          clear hX6
          by_cases o1 : 1 ≤ other
          · by_cases o2 : other ≤ s.last
            · go_wp2
              go_ret
              exact ⟨rfl, mod_end HM6.out⟩
            · have R := commit_at hP6 i2 other
              rw [(C2.out other (by omega)).1] at R
              have HR7 := hid R
              clear R hP6
              go_wp2_with fail
              refine HR7.out.mono ?_
              rintro e w7 ⟨rfl, hP7, hX7⟩
              have HM7 := hid (mod_new HM6.out hX7 hb hm)
              have R := refund_at hP7 i2 other
              rw [(C2.out other (by omega)).2] at R
              have HR8 := hid R
              clear R hP7 hX7
              go_wp2_with fail
              refine HR8.out.mono ?_
              rintro e w8 ⟨rfl, hP8, hX8⟩
              have HM8 := hid (mod_new HM7.out hX8 hb hm)
              clear hX8
              go_wp2
              go_ret
              exact ⟨rfl, mod_end HM8.out⟩
          · have R := commit_at hP6 i2 other
            rw [(C2.out other (by omega)).1] at R
            have HR7 := hid R
            clear R hP6
            go_wp2_with fail
            refine HR7.out.mono ?_
            rintro e w7 ⟨rfl, hP7, hX7⟩
            have HM7 := hid (mod_new HM6.out hX7 hb hm)
            have R := refund_at hP7 i2 other
            rw [(C2.out other (by omega)).2] at R
            have HR8 := hid R
            clear R hP7 hX7
            go_wp2_with fail
            refine HR8.out.mono ?_
            rintro e w8 ⟨rfl, hP8, hX8⟩
            have HM8 := hid (mod_new HM7.out hX8 hb hm)
            clear hX8
            go_wp2
            go_ret
            exact ⟨rfl, mod_end HM8.out⟩
      · obtain rfl : k = len := by omega
        clear hlt
        go_wp2_with fail
        refine HR.out.mono ?_
        rintro e w3 ⟨rfl, hP3, hX3⟩
        have HM3 := hid (mod_new HM.out hX3 hb hm)
        clear hX3
        cases keep
        · have R := refund_at hP3 i1 (s.last + 1)
          rw [E3.out] at R
          have HR4 := hid R
          clear R hP3
          go_wp2_with fail
          refine HR4.out.mono ?_
          rintro e w4 ⟨rfl, hP4, hX4⟩
          have HM4 := hid (mod_new HM3.out hX4 hb hm)
          clear hX4
          have R := commit_at hP4 i3 (s.last + 1)
          rw [(C3.out (s.last + 1) (by omega)).1] at R
          have HR5 := hid R
          clear R hP4
          go_wp2_with fail
          refine HR5.out.mono ?_
          rintro e w5 ⟨rfl, hP5, hX5⟩
          have HM5 := hid (mod_new HM4.out hX5 hb hm)
          have R := refund_at hP5 i3 (s.last + 1)
          rw [(C3.out (s.last + 1) (by omega)).2] at R
          have HR6 := hid R
          clear R hP5 hX5
          go_wp2_with fail
          refine HR6.out.mono ?_
          rintro e w6 ⟨rfl, hP6, hX6⟩
          have HM6 := hid (mod_new HM5.out hX6 hb hm)
          clear hX6
          by_cases o1 : 1 ≤ other
          · by_cases o2 : other ≤ s.last
            · go_wp2
              go_ret
              exact ⟨rfl, mod_end HM6.out⟩
            · have R := commit_at hP6 i3 other
              rw [(C3.out other (by omega)).1] at R
              have HR7 := hid R
              clear R hP6
              go_wp2_with fail
              refine HR7.out.mono ?_
              rintro e w7 ⟨rfl, hP7, hX7⟩
              have HM7 := hid (mod_new HM6.out hX7 hb hm)
              have R := refund_at hP7 i3 other
              rw [(C3.out other (by omega)).2] at R
              have HR8 := hid R
              clear R hP7 hX7
              go_wp2_with fail
              refine HR8.out.mono ?_
              rintro e w8 ⟨rfl, hP8, hX8⟩
              have HM8 := hid (mod_new HM7.out hX8 hb hm)
              clear hX8
              go_wp2
              go_ret
              exact ⟨rfl, mod_end HM8.out⟩
          · have R := commit_at hP6 i3 other
            rw [(C3.out other (by omega)).1] at R
            have HR7 := hid R
            clear R hP6
            go_wp2_with fail
            refine HR7.out.mono ?_
            rintro e w7 ⟨rfl, hP7, hX7⟩
            have HM7 := hid (mod_new HM6.out hX7 hb hm)
            have R := refund_at hP7 i3 other
            rw [(C3.out other (by omega)).2] at R
            have HR8 := hid R
            clear R hP7 hX7
            go_wp2_with fail
            refine HR8.out.mono ?_
            rintro e w8 ⟨rfl, hP8, hX8⟩
            have HM8 := hid (mod_new HM7.out hX8 hb hm)
            clear hX8
            go_wp2
            go_ret
            exact ⟨rfl, mod_end HM8.out⟩
        · have R := commit_at hP3 i1 (s.last + 1)
          rw [E2.out] at R
          have HR4 := hid R
          clear R hP3
          go_wp2_with fail
          refine HR4.out.mono ?_
          rintro e w4 ⟨rfl, hP4, hX4⟩
          have HM4 := hid (mod_new HM3.out hX4 hb hm)
          clear hX4
          have R := commit_at hP4 i2 (s.last + 1)
          rw [(C2.out (s.last + 1) (by omega)).1] at R
          have HR5 := hid R
          clear R hP4
          go_wp2_with fail
          refine HR5.out.mono ?_
          rintro e w5 ⟨rfl, hP5, hX5⟩
          have HM5 := hid (mod_new HM4.out hX5 hb hm)
          have R := refund_at hP5 i2 (s.last + 1)
          rw [(C2.out (s.last + 1) (by omega)).2] at R
          have HR6 := hid R
          clear R hP5 hX5
          go_wp2_with fail
          refine HR6.out.mono ?_
          rintro e w6 ⟨rfl, hP6, hX6⟩
          have HM6 := hid (mod_new HM5.out hX6 hb hm)
          clear hX6
          by_cases o1 : 1 ≤ other
          · by_cases o2 : other ≤ s.last
            · go_wp2
              go_ret
              exact ⟨rfl, mod_end HM6.out⟩
            · have R := commit_at hP6 i2 other
              rw [(C2.out other (by omega)).1] at R
              have HR7 := hid R
              clear R hP6
              go_wp2_with fail
              refine HR7.out.mono ?_
              rintro e w7 ⟨rfl, hP7, hX7⟩
              have HM7 := hid (mod_new HM6.out hX7 hb hm)
              have R := refund_at hP7 i2 other
              rw [(C2.out other (by omega)).2] at R
              have HR8 := hid R
              clear R hP7 hX7
              go_wp2_with fail
              refine HR8.out.mono ?_
              rintro e w8 ⟨rfl, hP8, hX8⟩
              have HM8 := hid (mod_new HM7.out hX8 hb hm)
              clear hX8
              go_wp2
              go_ret
              exact ⟨rfl, mod_end HM8.out⟩
          · have R := commit_at hP6 i2 other
            rw [(C2.out other (by omega)).1] at R
            have HR7 := hid R
            clear R hP6
            go_wp2_with fail
            refine HR7.out.mono ?_
            rintro e w7 ⟨rfl, hP7, hX7⟩
            have HM7 := hid (mod_new HM6.out hX7 hb hm)
            have R := refund_at hP7 i2 other
            rw [(C2.out other (by omega)).2] at R
            have HR8 := hid R
            clear R hP7 hX7
            go_wp2_with fail
            refine HR8.out.mono ?_
            rintro e w8 ⟨rfl, hP8, hX8⟩
            have HM8 := hid (mod_new HM7.out hX8 hb hm)
            clear hX8
            go_wp2
            go_ret
            exact ⟨rfl, mod_end HM8.out⟩
end Go.Proofs.Ytkdimkaladbnpaa
