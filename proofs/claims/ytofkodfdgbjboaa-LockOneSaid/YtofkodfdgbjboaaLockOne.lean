/- LockOne: the walk. -/
import Derived.Test.YtofkodfdgbjboaaLockDeed
import Derived.Deep.CutRange
import Derived.Deep.LoopGhost
import Derived.Deep.CutBlock
namespace Go.Proofs.Ytofkodfdgbjboaa
open Go.ChangeShapes Go.WideShapes Go.ChangeAt Go.RowKit Go.Burg
open Go.Burg.Lk

section
variable (x y : Wd) (g : Wd → Wd × Bool)
theorem lkp_one : lkp [(oneK, x)] oneK = some x := by simp [lkp]
theorem set_one : setKV [(oneK, x)] oneK y = [(oneK, y)] := by simp [setKV]
theorem turn_one : turnL [(oneK, x)] oneK g = if (g x).2 then (0, [(oneK, (g x).1)]) else (15, [(oneK, x)]) := by
  unfold turnL
  rw [lkp_one]
  simp only [set_one]
theorem held_one : heldL [(oneK, x)] = if x.held then 1 else 0 := by
  simp [heldL, List.countP_cons]
end

/-- What holds at a round's head of one Ref's word: held by somebody (h)? changed (c)? -/
structure One (k : Nat) (x : Wd) (h c : Bool) : Prop where
  held : x.held = h
  top : x.1 ≤ 4 * k + 3
  same : c = false → x.1 = if h then 1 else 0
  diff : c = true → 4 ≤ x.1

theorem One.up {k : Nat} {x : Wd} {h c : Bool} (H : One k x h c) : One (k + 1) x h c := ⟨H.held, by have := H.top; omega, H.same, H.diff⟩
theorem One.start : One 0 w0 false false := ⟨rfl, by decide, fun _ => rfl, fun h => by cases h⟩

/-- What a deed with one Ref makes of the word, by its number. -/
def oneTurn (g : Wd → Wd × Bool) (x : Wd) : Int × Wd := if (g x).2 then (0, (g x).1) else (15, x)

theorem One.lock_held {k : Nat} {x : Wd} {c : Bool} (H : One k x true c) (y : Wd) : Wd.only y x = (x, false) := by
  have hf : x.free = false := by
    have h1 := x.held_iff.1 H.held
    cases h : x.free
    · rfl
    · have := x.free_iff.1 h; omega
  unfold Wd.only
  split
  · rw [Wd.lock, hf]; rfl
  · rfl
theorem One.lock_yes {k : Nat} {x : Wd} {c : Bool} (H : One k x false c) (hf : x.free = true) : Wd.only x x = (Wd.of (x.1 + 1), true) ∧ One (k + 1) (Wd.of (x.1 + 1)) true c := by
  have h4 := x.free_iff.1 hf
  have ht := H.top
  have hx := x.2
  have e : (Wd.of (x.1 + 1)).1 = x.1 + 1 := Wd.of_in _ (by omega) (by omega)
  refine ⟨by rw [Wd.only, if_pos rfl, Wd.lock, if_pos hf], ?_, by rw [e]; omega, fun hc => ?_, fun hc => ?_⟩
  · rw [Wd.held_iff, e]; omega
  · have := H.same hc
    rw [e, this]; rfl
  · have := H.diff hc
    rw [e]; omega
theorem One.no {k : Nat} {x : Wd} {c : Bool} (H : One k x false c) : x.drop = (x, false) ∧ x.done = (x, false) ∧ x.kill = (x, false) := by
  have h := H.held
  refine ⟨by rw [Wd.drop, h]; rfl, by rw [Wd.done, h]; rfl, by rw [Wd.kill, h]; rfl⟩
theorem One.drop {k : Nat} {x : Wd} {c : Bool} (H : One k x true c) : x.drop = (Wd.of (x.1 - 1), true) ∧ One (k + 1) (Wd.of (x.1 - 1)) false c := by
  have h4 := x.held_iff.1 H.held
  have ht := H.top
  have hx := x.2
  have e : (Wd.of (x.1 - 1)).1 = x.1 - 1 := Wd.of_in _ (by omega) (by omega)
  refine ⟨by rw [Wd.drop, H.held]; rfl, ?_, by rw [e]; omega, fun hc => ?_, fun hc => ?_⟩
  · cases h : (Wd.of (x.1 - 1)).held
    · rfl
    · have := (Wd.held_iff _).1 h; rw [e] at this; omega
  · have := H.same hc
    rw [e, this]; rfl
  · have := H.diff hc
    rw [e]; omega
theorem One.done {k : Nat} {x : Wd} {c : Bool} (H : One k x true c) (hk : k ≤ 200) : x.done = (Wd.of (x.1 - 1 + 4), true) ∧ One (k + 1) (Wd.of (x.1 - 1 + 4)) false true := by
  have h4 := x.held_iff.1 H.held
  have ht := H.top
  have hx := x.2
  have e : (Wd.of (x.1 - 1 + 4)).1 = x.1 - 1 + 4 := Wd.of_in _ (by omega) (by omega)
  refine ⟨by rw [Wd.done, H.held]; rfl, ?_, by rw [e]; omega, fun hc => (by cases hc), fun _ => ?_⟩
  · cases h : (Wd.of (x.1 - 1 + 4)).held
    · rfl
    · have := (Wd.held_iff _).1 h; rw [e] at this; omega
  · rw [e]; omega
theorem One.kill {k : Nat} {x : Wd} {c : Bool} (H : One k x true c) (hk : k ≤ 200) : x.kill = (Wd.of ((Wd.of (x.1 - 1 + 4)).1 + 2), true) ∧ One (k + 1) (Wd.of ((Wd.of (x.1 - 1 + 4)).1 + 2)) false true := by
  have h4 := x.held_iff.1 H.held
  have ht := H.top
  have hx := x.2
  have e0 : (Wd.of (x.1 - 1 + 4)).1 = x.1 - 1 + 4 := Wd.of_in _ (by omega) (by omega)
  have e : (Wd.of ((Wd.of (x.1 - 1 + 4)).1 + 2)).1 = x.1 - 1 + 4 + 2 := by rw [e0]; exact Wd.of_in _ (by omega) (by omega)
  refine ⟨by rw [Wd.kill, H.held]; rfl, ?_, by rw [e]; omega, fun hc => (by cases hc), fun _ => ?_⟩
  · cases h : (Wd.of ((Wd.of (x.1 - 1 + 4)).1 + 2)).held
    · rfl
    · have := (Wd.held_iff _).1 h; rw [e] at this; omega
  · rw [e]; omega

section
variable {w wr : World} {b m c0 : Nat} {x x2 y : Wd} {tk : Int}
theorem one_held {k : Nat} {h c : Bool} (H : Aw w b m c0 [(oneK, x)] tk wr) (hO : One k x h c) : Calls Try.prog 17 #[.pointer (some ⟨b, 0, none⟩)] wr fun e w' => e = .returned (.int .i64 (if h then 1 else 0)) ∧ Aw w b m c0 [(oneK, x)] tk w' := by
  refine (held_at H.lk (by simp)).mono ?_
  rintro e w' ⟨rfl, hB⟩
  refine ⟨?_, H.keep hB⟩
  rw [held_one, hO.held]
  cases h <;> rfl
theorem one_check (H : Aw w b m c0 [(oneK, x)] tk wr) (v : Bool) (hv : decide (x = w0) = v) : Calls Try.prog 18 #[.pointer (some ⟨b, 0, none⟩), .agg #[.int .i64 0, .int .u32 1], .int .u64 0] wr fun e w' => e = .returned (.bool v) ∧ Aw w b m c0 [(oneK, x)] tk w' := by
  refine (check_at H.lk oneK w0).mono ?_
  rintro e w' ⟨rfl, hB⟩
  refine ⟨?_, H.keep hB⟩
  rw [lkp_one, ← hv]
  simp
theorem one_begin (H : Aw w b m c0 [(oneK, x)] tk wr) : Calls Try.prog 11 #[.pointer (some ⟨b, 0, none⟩), .agg #[.int .i64 0, .int .u32 1]] wr fun e w' => (∃ s, e = .returned (.tuple #[.int .u64 x.1, .int .i64 s])) ∧ Aw w b m c0 [(oneK, x)] tk w' := by
  refine (begin_at H.lk oneK).mono ?_
  rintro e w' ⟨rfl, hB⟩
  refine ⟨⟨if x.dead then 2 else if x.locked then 1 else 0, ?_⟩, H.keep hB⟩
  unfold beg
  rw [lkp_one]
theorem one_lock_no (H : Aw w b m c0 [(oneK, x)] tk wr) (h0 : 0 ≤ tk) (h1 : tk ≤ 200) (hn : Wd.only y x = (x, false)) : Calls Try.prog 13 #[.pointer (some ⟨b, 0, none⟩), .agg #[.int .i64 0, .int .u32 1], .int .u64 y.1] wr fun e w' => e = .returned (.bool false) ∧ Aw w b m c0 [(oneK, x)] tk w' := by
  have e1 : lockL [(oneK, x)] oneK y = (false, [(oneK, x)]) := by
    unfold lockL
    rw [turn_one, hn]
    rfl
  have R := lock_at0 H.lk oneK y (by omega) h0
  rw [e1] at R
  refine R.mono ?_
  rintro e w' ⟨rfl, hL, hX⟩
  exact ⟨rfl, H.turn hL hX⟩
theorem one_lock_yes (H : Aw w b m c0 [(oneK, x)] tk wr) (h0 : 0 ≤ tk) (h1 : tk ≤ 200) (hn : Wd.only y x = (x2, true)) : Calls Try.prog 13 #[.pointer (some ⟨b, 0, none⟩), .agg #[.int .i64 0, .int .u32 1], .int .u64 y.1] wr fun e w' => e = .returned (.bool true) ∧ Aw w b m c0 [(oneK, x2)] (tk + 1) w' := by
  have e1 : lockL [(oneK, x)] oneK y = (true, [(oneK, x2)]) := by
    unfold lockL
    rw [turn_one, hn]
    rfl
  have R := lock_at0 H.lk oneK y (by omega) h0
  rw [e1] at R
  refine R.mono ?_
  rintro e w' ⟨rfl, hL, hX⟩
  exact ⟨rfl, H.turn hL hX⟩
theorem one_drop_no (H : Aw w b m c0 [(oneK, x)] tk wr) (hn : Wd.drop x = (x, false)) : Calls Try.prog 14 #[.pointer (some ⟨b, 0, none⟩), .agg #[.int .i64 0, .int .u32 1]] wr fun e w' => e = .returned (.int .i64 15) ∧ Aw w b m c0 [(oneK, x)] tk w' := by
  have R := drop_at H.lk oneK
  rw [turn_one, hn] at R
  refine R.mono ?_
  rintro e w' ⟨rfl, hL, hX⟩
  exact ⟨rfl, H.turn hL hX⟩
theorem one_done_no (H : Aw w b m c0 [(oneK, x)] tk wr) (hn : Wd.done x = (x, false)) : Calls Try.prog 15 #[.pointer (some ⟨b, 0, none⟩), .agg #[.int .i64 0, .int .u32 1]] wr fun e w' => e = .returned (.int .i64 15) ∧ Aw w b m c0 [(oneK, x)] tk w' := by
  have R := done_at H.lk oneK
  rw [turn_one, hn] at R
  refine R.mono ?_
  rintro e w' ⟨rfl, hL, hX⟩
  exact ⟨rfl, H.turn hL hX⟩
theorem one_kill_no (H : Aw w b m c0 [(oneK, x)] tk wr) (hn : Wd.kill x = (x, false)) : Calls Try.prog 16 #[.pointer (some ⟨b, 0, none⟩), .agg #[.int .i64 0, .int .u32 1]] wr fun e w' => e = .returned (.int .i64 15) ∧ Aw w b m c0 [(oneK, x)] tk w' := by
  have R := kill_at H.lk oneK
  rw [turn_one, hn] at R
  refine R.mono ?_
  rintro e w' ⟨rfl, hL, hX⟩
  exact ⟨rfl, H.turn hL hX⟩
theorem one_drop_yes (H : Aw w b m c0 [(oneK, x)] tk wr) (hn : Wd.drop x = (x2, true)) : Calls Try.prog 14 #[.pointer (some ⟨b, 0, none⟩), .agg #[.int .i64 0, .int .u32 1]] wr fun e w' => e = .returned (.int .i64 0) ∧ Aw w b m c0 [(oneK, x2)] tk w' := by
  have R := drop_at H.lk oneK
  rw [turn_one, hn] at R
  refine R.mono ?_
  rintro e w' ⟨rfl, hL, hX⟩
  exact ⟨rfl, H.turn hL hX⟩
theorem one_done_yes (H : Aw w b m c0 [(oneK, x)] tk wr) (hn : Wd.done x = (x2, true)) : Calls Try.prog 15 #[.pointer (some ⟨b, 0, none⟩), .agg #[.int .i64 0, .int .u32 1]] wr fun e w' => e = .returned (.int .i64 0) ∧ Aw w b m c0 [(oneK, x2)] tk w' := by
  have R := done_at H.lk oneK
  rw [turn_one, hn] at R
  refine R.mono ?_
  rintro e w' ⟨rfl, hL, hX⟩
  exact ⟨rfl, H.turn hL hX⟩
theorem one_kill_yes (H : Aw w b m c0 [(oneK, x)] tk wr) (hn : Wd.kill x = (x2, true)) : Calls Try.prog 16 #[.pointer (some ⟨b, 0, none⟩), .agg #[.int .i64 0, .int .u32 1]] wr fun e w' => e = .returned (.int .i64 0) ∧ Aw w b m c0 [(oneK, x2)] tk w' := by
  have R := kill_at H.lk oneK
  rw [turn_one, hn] at R
  refine R.mono ?_
  rintro e w' ⟨rfl, hL, hX⟩
  exact ⟨rfl, H.turn hL hX⟩
end
theorem only_no {x y : Wd} (h : ¬ (y = x ∧ x.free = true)) : Wd.only y x = (x, false) := by
  unfold Wd.only
  split
  · rename_i e
    have hf : x.free = false := by
      cases hf : x.free
      · rfl
      · exact absurd ⟨e.symm, hf⟩ h
    rw [Wd.lock, hf]; rfl
  · rfl
theorem One.ck_c {k : Nat} {x : Wd} {h : Bool} (hO : One k x h true) : decide (x = w0) = false := by
  have := hO.diff rfl
  simp only [decide_eq_false_iff_not]
  rintro rfl
  exact absurd this (by decide)
theorem One.ck_s {k : Nat} {x : Wd} (hO : One k x false false) : decide (x = w0) = true := by
  have := hO.same rfl
  simp only [decide_eq_true_eq]
  exact Subtype.ext this

theorem deed_facts {w wr : World} {a : Option Addr} {len k : Nat} {ds : Nat → LDeed} (hD : DeedsAt w a len ds) (hM : Mod (fun i => w.heap.size ≤ i) w wr) (hk : k < len) :
    ∃ bl off, a = some ⟨bl, off, none⟩ ∧ wr.cell? ⟨bl, off + k * 4, none⟩ = some (.int .i64 (ds k).what) ∧ wr.cell? ⟨bl, off + k * 4 + 1, none⟩ = some (.int .i64 (ds k).ref.1.1) ∧
    wr.cell? ⟨bl, off + k * 4 + 2, none⟩ = some (.int .u32 (ds k).ref.1.2) ∧ wr.cell? ⟨bl, off + k * 4 + 3, none⟩ = some (.int .u64 (ds k).w.1) := by
  obtain ⟨bl, off, ha, hbl, hall⟩ := hD (by omega)
  obtain ⟨d0, d1, d2, d3⟩ := hall k hk
  have hc : ∀ j, wr.cell? ⟨bl, j, none⟩ = w.cell? ⟨bl, j, none⟩ := fun j => World.cell?_of_block (w := w) (hM.block bl hbl (by omega))
  exact ⟨bl, off, ha, (hc _).trans d0, (hc _).trans d1, (hc _).trans d2, (hc _).trans d3⟩

set_option maxRecDepth 20000 in
set_option maxHeartbeats 40000000 in
theorem lockone_any (a : Option Addr) (len cap : Nat) (ds : Nat → LDeed) (reader : Wd) (w : World) (hD : DeedsAt w a len ds) :
    Calls Try.prog 3 #[.slice a len cap, .int .u64 reader.1] w fun e w' => e = .returned (.bool true) ∧ Below w.heap.size w w' := by
  go_enter Try.func3, Try.ntmps3
  go_wp2_with fail
  refine (awake_any _).mono ?_
  rintro e w1 ⟨rfl, hB⟩
  have hM := mod_bel (Mod.refl (fun i => w.heap.size ≤ i) w) hB
  clear hB
  by_cases hlen : 200 < len
  · have hl1 : decide ((len : Int) > 200) = true := by simp; omega
    have hl2 : decide ((200 : Int) < len) = true := by simp; omega
    go_wp2_with fail
    go_ret
    exact ⟨rfl, mod_end hM⟩
  have hl1 : decide ((len : Int) > 200) = false := by simp; omega
  have hl2 : decide ((200 : Int) < len) = false := by simp; omega
  go_wp2_with fail
  refine (new_at _).mono ?_
  rintro e w2 ⟨b, m, rfl, hP, hb, hm, hB⟩
  have hb := Nat.le_trans hM.size hb
  have hm := Nat.le_trans hM.size hm
  have hM := mod_bel hM hB
  clear hB
  go_wp2_with fail
  refine (one_any _).mono ?_
  rintro e w3 ⟨rfl, hB⟩
  have hP := hP.keep hB
  have hM := mod_bel hM hB
  have hl := hP.lt
  have H : Aw w b m w3.heap.size [] 0 (w3.alloc (.cells #[.int .i64 0, .int .u32 1] 30)) := ⟨hP.alloc _, heap_new _ _, hM.alloc _, hb, hm, by omega, by omega⟩
  clear hB hM hP hb hm hl
  have r0 := cell_of H.r 0
  have r1 := cell_of H.r 1
  go_wp2_with fail
  clear r0 r1
  have R := add_at' H.lk oneK
  rw [a1] at R
  refine R.mono ?_
  clear R
  rintro e w4 ⟨rfl, hL, hX⟩
  have H := H.turn hL hX
  clear hL hX
  have r0 := cell_of H.r 0
  have r1 := cell_of H.r 1
  go_wp2_with fail
  clear r0 r1
  have R := begin_at H.lk oneK
  rw [a2] at R
  refine R.mono ?_
  clear R
  rintro e w5 ⟨rfl, hX⟩
  have H := H.keep hX
  clear hX
  generalize w3.heap.size = c0 at *
  have HR := hid H
  clear H
  go_wp2_with fail
  go_loopg [9, 10, 11] 200 (fun g hv cv iv wr => ∃ (k : Nat) (x : Wd) (h c : Bool) (tk : Int), g = 200 - k ∧ k ≤ len ∧ k ≤ 200 ∧ iv = .int .i64 k ∧ hv = .bool h ∧ cv = .bool c ∧ One k x h c ∧ 0 ≤ tk ∧ tk ≤ k ∧ Aw w b m c0 [(oneK, x)] tk wr)
  case atStart => exact ⟨0, Wd.of 0, false, false, 0, rfl, Nat.zero_le _, by omega, rfl, rfl, rfl, One.start, by omega, by omega, HR.out⟩
  case round =>
    clear HR
    obtain ⟨k, x, h, c, tk, rfl, hk, hk2, rfl, rfl, rfl, hO, ht0, ht1, H⟩ := hrel
    have HO := hid hO
    have HH := hid H
    by_cases hlt : k < len
    · obtain ⟨bl, off, rfl, d0, d1, d2, d3⟩ := deed_facts hD H.mod hlt
      have hcond : decide ((k : Int) < len) = true := by simp; exact hlt
      have r0 := cell_of HH.out.r 0
      have r1 := cell_of HH.out.r 1
      have W0 : ∃ y : Wd, y = (ds k).w := ⟨_, rfl⟩
      obtain ⟨y0, hy0⟩ := W0
      rw [← hy0] at d3
      have HY0 := hid hy0
      clear H hO hy0
      go_upto_if 43 with fail
      go_cut [12] from 30 to 140 (fun s wx => ∃ y : Wd, s = .int .u64 y.1 ∧ Aw w b m c0 [(oneK, x)] tk wx)
      case first =>
        by_cases hm3 : 0 < (k : Int) % 3
        · go_wp2_with (go_at_call 11; refine (one_begin HH.out).mono ?_; rintro e wb ⟨⟨s, rfl⟩, hX⟩)
          go_meet
          case rel => exact ⟨x, rfl, hX⟩
        · go_wp2_with fail
          go_meet
          case rel => exact ⟨y0, rfl, HH.out⟩
      case rest =>
        clear r0 r1 HH d0 d1 d2 d3
        obtain ⟨y, rfl, H⟩ := hcut
        obtain ⟨_, _, eA, d0, d1, d2, d3⟩ := deed_facts hD H.mod hlt
        simp only [Option.some.injEq, Addr.mk.injEq, and_true] at eA
        obtain ⟨rfl, rfl⟩ := eA
        rw [← HY0.out] at d3
        have HT := hid (show 0 ≤ (ds k).what % 7 ∧ (ds k).what % 7 < 7 by omega)
        have hq4 : y0.1 % 4 = 0 ∨ y0.1 % 4 = 1 ∨ y0.1 % 4 = 2 ∨ y0.1 % 4 = 3 := by omega
        clear d1 d2 HY0
        go_upto_block 2 with (go_at_call 12; refine (pick_any (ds k).what 7 _ _ (by decide) (by decide) rfl).mono ?_; rintro e wp ⟨rfl, rfl⟩)
        have hp7 : (ds k).what % 7 = 0 ∨ (ds k).what % 7 = 1 ∨ (ds k).what % 7 = 2 ∨ (ds k).what % 7 = 3 ∨ (ds k).what % 7 = 4 ∨ (ds k).what % 7 = 5 ∨ (ds k).what % 7 = 6 := by have := HT.out; omega
        have HX := hid H
        clear H d0 HT
        generalize (ds k).what % 7 = p at *
        go_cut [9, 10, 13] from 30 to 140 (fun hv cv _ wx => ∃ (x : Wd) (h c : Bool) (tk : Int), hv = .bool h ∧ cv = .bool c ∧ One (k + 1) x h c ∧ 0 ≤ tk ∧ tk ≤ k + 1 ∧ Aw w b m c0 [(oneK, x)] tk wx)
        case first =>
--ARMS
          cases h
          · rcases hp7 with hp | hp | hp | hp | hp | hp | hp
            · subst hp
              go_wp2_with fail
              go_meet
              case rel => exact ⟨_, _, _, _, rfl, rfl, HO.out.up, by omega, by omega, HX.out⟩
            · subst hp
              go_wp2_with fail
              go_meet
              case rel => exact ⟨_, _, _, _, rfl, rfl, HO.out.up, by omega, by omega, HX.out⟩
            · subst hp
              by_cases hy : y = x ∧ x.free = true
              · have HY : Hid (Wd.only y x = (Wd.of (x.1 + 1), true)) := hid (by rw [hy.1]; exact (HO.out.lock_yes hy.2).1)
                have HO3 := hid (HO.out.lock_yes hy.2).2
                clear hy
                have r0 := cell_of HX.out.r 0
                have r1 := cell_of HX.out.r 1
                go_wp2_with fail
                clear r0 r1
                refine (one_lock_yes HX.out ht0 (by omega) HY.out).mono ?_
                rintro e wq ⟨rfl, H⟩
                go_wp2_with fail
                go_meet
                case rel => exact ⟨_, _, _, _, rfl, rfl, HO3.out, by omega, by omega, H⟩
              · have HY := hid (only_no hy)
                clear hy
                have r0 := cell_of HX.out.r 0
                have r1 := cell_of HX.out.r 1
                go_wp2_with fail
                clear r0 r1
                refine (one_lock_no HX.out ht0 (by omega) HY.out).mono ?_
                rintro e wq ⟨rfl, H⟩
                go_wp2_with fail
                go_meet
                case rel => exact ⟨_, _, _, _, rfl, rfl, HO.out.up, by omega, by omega, H⟩
            · subst hp
              by_cases hy : y = x ∧ x.free = true
              · have HY : Hid (Wd.only y x = (Wd.of (x.1 + 1), true)) := hid (by rw [hy.1]; exact (HO.out.lock_yes hy.2).1)
                have HO3 := hid (HO.out.lock_yes hy.2).2
                clear hy
                have r0 := cell_of HX.out.r 0
                have r1 := cell_of HX.out.r 1
                go_wp2_with fail
                clear r0 r1
                refine (one_lock_yes HX.out ht0 (by omega) HY.out).mono ?_
                rintro e wq ⟨rfl, H⟩
                go_wp2_with fail
                go_meet
                case rel => exact ⟨_, _, _, _, rfl, rfl, HO3.out, by omega, by omega, H⟩
              · have HY := hid (only_no hy)
                clear hy
                have r0 := cell_of HX.out.r 0
                have r1 := cell_of HX.out.r 1
                go_wp2_with fail
                clear r0 r1
                refine (one_lock_no HX.out ht0 (by omega) HY.out).mono ?_
                rintro e wq ⟨rfl, H⟩
                go_wp2_with fail
                go_meet
                case rel => exact ⟨_, _, _, _, rfl, rfl, HO.out.up, by omega, by omega, H⟩
            · subst hp
              have r0 := cell_of HX.out.r 0
              have r1 := cell_of HX.out.r 1
              go_wp2_with fail
              clear r0 r1
              refine (one_drop_no HX.out HO.out.no.1).mono ?_
              rintro e wq ⟨rfl, H⟩
              go_wp2_with fail
              go_meet
              case rel => exact ⟨_, _, _, _, rfl, rfl, HO.out.up, by omega, by omega, H⟩
            · subst hp
              cases c
              all_goals
                have r0 := cell_of HX.out.r 0
                have r1 := cell_of HX.out.r 1
                go_wp2_with fail
                clear r0 r1
                refine (one_done_no HX.out HO.out.no.2.1).mono ?_
                rintro e wq ⟨rfl, H⟩
                go_wp2_with fail
                go_meet
                case rel => exact ⟨_, _, _, _, rfl, rfl, HO.out.up, by omega, by omega, H⟩
            · subst hp
              rcases hq4 with hq | hq | hq | hq
              · have HQ := hid hq
                clear hq
                cases c
                all_goals
                  have r0 := cell_of HX.out.r 0
                  have r1 := cell_of HX.out.r 1
                  go_wp2_with (go_at_call 12; refine (pick_any (y0.1 % 4) 4 0 _ (by decide) (by decide) (by have := HQ.out; omega)).mono ?_; rintro e wp ⟨rfl, rfl⟩)
                  clear r0 r1
                  refine (one_kill_no HX.out HO.out.no.2.2).mono ?_
                  rintro e wq ⟨rfl, H⟩
                  go_wp2_with fail
                  go_meet
                  case rel => exact ⟨_, _, _, _, rfl, rfl, HO.out.up, by omega, by omega, H⟩
              · have HQ := hid hq
                clear hq
                go_wp2_with (go_at_call 12; refine (pick_any (y0.1 % 4) 4 1 _ (by decide) (by decide) (by have := HQ.out; omega)).mono ?_; rintro e wp ⟨rfl, rfl⟩)
                go_roundg (200 - (k + 1))
                case measure => omega
                case rel => exact ⟨k + 1, _, _, _, _, rfl, by omega, by omega, by go_num, rfl, rfl, HO.out.up, by omega, by omega, HX.out⟩
              · have HQ := hid hq
                clear hq
                go_wp2_with (go_at_call 12; refine (pick_any (y0.1 % 4) 4 2 _ (by decide) (by decide) (by have := HQ.out; omega)).mono ?_; rintro e wp ⟨rfl, rfl⟩)
                go_roundg (200 - (k + 1))
                case measure => omega
                case rel => exact ⟨k + 1, _, _, _, _, rfl, by omega, by omega, by go_num, rfl, rfl, HO.out.up, by omega, by omega, HX.out⟩
              · have HQ := hid hq
                clear hq
                go_wp2_with (go_at_call 12; refine (pick_any (y0.1 % 4) 4 3 _ (by decide) (by decide) (by have := HQ.out; omega)).mono ?_; rintro e wp ⟨rfl, rfl⟩)
                go_roundg (200 - (k + 1))
                case measure => omega
                case rel => exact ⟨k + 1, _, _, _, _, rfl, by omega, by omega, by go_num, rfl, rfl, HO.out.up, by omega, by omega, HX.out⟩
          · rcases hp7 with hp | hp | hp | hp | hp | hp | hp
            · subst hp
              go_wp2_with fail
              go_meet
              case rel => exact ⟨_, _, _, _, rfl, rfl, HO.out.up, by omega, by omega, HX.out⟩
            · subst hp
              go_wp2_with fail
              go_meet
              case rel => exact ⟨_, _, _, _, rfl, rfl, HO.out.up, by omega, by omega, HX.out⟩
            · subst hp
              have r0 := cell_of HX.out.r 0
              have r1 := cell_of HX.out.r 1
              go_wp2_with fail
              clear r0 r1
              refine (one_lock_no HX.out ht0 (by omega) (HO.out.lock_held y)).mono ?_
              rintro e wq ⟨rfl, H⟩
              go_wp2_with fail
              go_meet
              case rel => exact ⟨_, _, _, _, rfl, rfl, HO.out.up, by omega, by omega, H⟩
            · subst hp
              have r0 := cell_of HX.out.r 0
              have r1 := cell_of HX.out.r 1
              go_wp2_with fail
              clear r0 r1
              refine (one_lock_no HX.out ht0 (by omega) (HO.out.lock_held y)).mono ?_
              rintro e wq ⟨rfl, H⟩
              go_wp2_with fail
              go_meet
              case rel => exact ⟨_, _, _, _, rfl, rfl, HO.out.up, by omega, by omega, H⟩
            · subst hp
              have r0 := cell_of HX.out.r 0
              have r1 := cell_of HX.out.r 1
              go_wp2_with fail
              clear r0 r1
              refine (one_drop_yes HX.out HO.out.drop.1).mono ?_
              rintro e wq ⟨rfl, H⟩
              go_wp2_with fail
              go_meet
              case rel => exact ⟨_, _, _, _, rfl, rfl, HO.out.drop.2, by omega, by omega, H⟩
            · subst hp
              cases c
              all_goals
                have r0 := cell_of HX.out.r 0
                have r1 := cell_of HX.out.r 1
                go_wp2_with fail
                clear r0 r1
                refine (one_done_yes HX.out (HO.out.done (by omega)).1).mono ?_
                rintro e wq ⟨rfl, H⟩
                go_wp2_with fail
                go_meet
                case rel => exact ⟨_, _, _, _, rfl, rfl, (HO.out.done (by omega)).2, by omega, by omega, H⟩
            · subst hp
              rcases hq4 with hq | hq | hq | hq
              · have HQ := hid hq
                clear hq
                cases c
                all_goals
                  have r0 := cell_of HX.out.r 0
                  have r1 := cell_of HX.out.r 1
                  go_wp2_with (go_at_call 12; refine (pick_any (y0.1 % 4) 4 0 _ (by decide) (by decide) (by have := HQ.out; omega)).mono ?_; rintro e wp ⟨rfl, rfl⟩)
                  clear r0 r1
                  refine (one_kill_yes HX.out (HO.out.kill (by omega)).1).mono ?_
                  rintro e wq ⟨rfl, H⟩
                  go_wp2_with fail
                  go_meet
                  case rel => exact ⟨_, _, _, _, rfl, rfl, (HO.out.kill (by omega)).2, by omega, by omega, H⟩
              · have HQ := hid hq
                clear hq
                go_wp2_with (go_at_call 12; refine (pick_any (y0.1 % 4) 4 1 _ (by decide) (by decide) (by have := HQ.out; omega)).mono ?_; rintro e wp ⟨rfl, rfl⟩)
                go_roundg (200 - (k + 1))
                case measure => omega
                case rel => exact ⟨k + 1, _, _, _, _, rfl, by omega, by omega, by go_num, rfl, rfl, HO.out.up, by omega, by omega, HX.out⟩
              · have HQ := hid hq
                clear hq
                go_wp2_with (go_at_call 12; refine (pick_any (y0.1 % 4) 4 2 _ (by decide) (by decide) (by have := HQ.out; omega)).mono ?_; rintro e wp ⟨rfl, rfl⟩)
                go_roundg (200 - (k + 1))
                case measure => omega
                case rel => exact ⟨k + 1, _, _, _, _, rfl, by omega, by omega, by go_num, rfl, rfl, HO.out.up, by omega, by omega, HX.out⟩
              · have HQ := hid hq
                clear hq
                go_wp2_with (go_at_call 12; refine (pick_any (y0.1 % 4) 4 3 _ (by decide) (by decide) (by have := HQ.out; omega)).mono ?_; rintro e wp ⟨rfl, rfl⟩)
                go_roundg (200 - (k + 1))
                case measure => omega
                case rel => exact ⟨k + 1, _, _, _, _, rfl, by omega, by omega, by go_num, rfl, rfl, HO.out.up, by omega, by omega, HX.out⟩
--ENDARMS
        case rest =>
          clear HX HO hp7 hq4 d3 ht0 ht1
          obtain ⟨x2, h2, c2, tk2, rfl, rfl, hO2, hu0, hu1, H⟩ := hcut
          have HO2 := hid hO2
          clear hO2
          cases h2 <;> cases c2
          · go_wp2_with fail
            refine (one_held H HO2.out).mono ?_
            rintro e wh ⟨rfl, H⟩
            have r0 := cell_of H.r 0
            have r1 := cell_of H.r 1
            go_wp2_with fail
            clear r0 r1
            refine (one_check H true (HO2.out.ck_s)).mono ?_
            rintro e wj ⟨rfl, H⟩
            go_wp2_with fail
            go_roundg (200 - (k + 1))
            case measure => omega
            case rel => exact ⟨k + 1, _, _, _, _, rfl, by omega, by omega, by go_num, rfl, rfl, HO2.out, by omega, by omega, H⟩
          · go_wp2_with fail
            refine (one_held H HO2.out).mono ?_
            rintro e wh ⟨rfl, H⟩
            have r0 := cell_of H.r 0
            have r1 := cell_of H.r 1
            go_wp2_with fail
            clear r0 r1
            refine (one_check H false (HO2.out.ck_c)).mono ?_
            rintro e wj ⟨rfl, H⟩
            go_wp2_with fail
            go_roundg (200 - (k + 1))
            case measure => omega
            case rel => exact ⟨k + 1, _, _, _, _, rfl, by omega, by omega, by go_num, rfl, rfl, HO2.out, by omega, by omega, H⟩
          · go_wp2_with fail
            refine (one_held H HO2.out).mono ?_
            rintro e wh ⟨rfl, H⟩
            go_wp2_with fail
            go_roundg (200 - (k + 1))
            case measure => omega
            case rel => exact ⟨k + 1, _, _, _, _, rfl, by omega, by omega, by go_num, rfl, rfl, HO2.out, by omega, by omega, H⟩
          · go_wp2_with fail
            refine (one_held H HO2.out).mono ?_
            rintro e wh ⟨rfl, H⟩
            have r0 := cell_of H.r 0
            have r1 := cell_of H.r 1
            go_wp2_with fail
            clear r0 r1
            refine (one_check H false (HO2.out.ck_c)).mono ?_
            rintro e wj ⟨rfl, H⟩
            go_wp2_with fail
            go_roundg (200 - (k + 1))
            case measure => omega
            case rel => exact ⟨k + 1, _, _, _, _, rfl, by omega, by omega, by go_num, rfl, rfl, HO2.out, by omega, by omega, H⟩
    · obtain rfl : k = len := by omega
      have hcond : decide ((k : Int) < k) = false := by simp
      clear H hO
      have hno : c = true → Wd.only w0 x = (x, false) := fun hc => only_no fun e => by
        have := HO.out.diff hc
        rw [← e.1] at this
        exact absurd this (by decide)
      have HN := hid hno
      clear hno
      cases h <;> cases c
      · go_wp2_with fail
        go_ret
        exact ⟨rfl, mod_end HH.out.mod⟩
      · have r0 := cell_of HH.out.r 0
        have r1 := cell_of HH.out.r 1
        go_wp2_with fail
        clear r0 r1
        refine (one_lock_no (y := w0) HH.out ht0 (by omega) (HN.out (by trivial))).mono ?_
        rintro e wq ⟨rfl, H⟩
        go_wp2_with fail
        go_ret
        exact ⟨rfl, mod_end H.mod⟩
      · have r0 := cell_of HH.out.r 0
        have r1 := cell_of HH.out.r 1
        go_wp2_with fail
        clear r0 r1
        refine (one_lock_no (y := w0) HH.out ht0 (by omega) (HO.out.lock_held w0)).mono ?_
        rintro e wq1 ⟨rfl, H⟩
        have r0 := cell_of H.r 0
        have r1 := cell_of H.r 1
        go_wp2_with fail
        clear r0 r1
        refine (one_lock_no (y := reader) H ht0 (by omega) (HO.out.lock_held reader)).mono ?_
        rintro e wq2 ⟨rfl, H⟩
        go_wp2_with fail
        go_ret
        exact ⟨rfl, mod_end H.mod⟩
      · have r0 := cell_of HH.out.r 0
        have r1 := cell_of HH.out.r 1
        go_wp2_with fail
        clear r0 r1
        refine (one_lock_no (y := w0) HH.out ht0 (by omega) (HN.out (by trivial))).mono ?_
        rintro e wq ⟨rfl, H⟩
        have HH := hid H
        have r0 := cell_of HH.out.r 0
        have r1 := cell_of HH.out.r 1
        go_wp2_with fail
        clear r0 r1
        refine (one_lock_no (y := w0) HH.out ht0 (by omega) (HO.out.lock_held w0)).mono ?_
        rintro e wq1 ⟨rfl, H⟩
        have r0 := cell_of H.r 0
        have r1 := cell_of H.r 1
        go_wp2_with fail
        clear r0 r1
        refine (one_lock_no (y := reader) H ht0 (by omega) (HO.out.lock_held reader)).mono ?_
        rintro e wq2 ⟨rfl, H⟩
        go_wp2_with fail
        go_ret
        exact ⟨rfl, mod_end H.mod⟩
end Go.Proofs.Ytofkodfdgbjboaa
