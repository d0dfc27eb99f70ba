/- Part 50 of 51 of a proof: lemmas on the functions that it reaches. -/
import Derived.Test.YtnngicopphiaaaaGreatDoorC49
import Derived.Test.YtnngicopphiaaaaGreatDoorC02
import Derived.Deep.Slices
import Derived.Lib.SmallJoins
namespace Go.Proofs.YtnngicopphiaaaaGreatDoor.T
set_option maxRecDepth 8000
open Go.ChangeShapes Go.WideShapes Go.ChangeAt Go.RowKit Go.Burg
open Go.Burg.Lk
namespace Ws
open Aw (r0)
theorem plant5 {w : World} {t sb sg kb km : Nat} (h : TreeAt w t sb sg kb km (List.replicate 5 ⟨false, Nd.zero, 0⟩) [] 0) : Calls Tryz.prog 6 #[.pointer (some ⟨t, 0, none⟩)] w fun e w' => e = .returned (.tuple #[.agg #[.int .i64 0, .int .u32 1], .int .i64 0]) ∧ TreeAt w' t sb sg kb km l1 [(r0, K.w0)] 0 ∧ Mod (TOwn sg km) w w' := by
  refine (plant_at (k := 0) (c := ⟨false, Nd.zero, 0⟩) w h (.inl ⟨0, ⟨false, Nd.zero, 0⟩, rfl, rfl, rfl, fun j hj => by omega⟩) rfl rfl r0 rfl rfl).mono ?_
  rintro e w' ⟨e1, hT, hM⟩
  exact ⟨e1, hT, hM⟩
section
variable {w W W' : World} {t sb sg kb km ab : Nat} {xv tk : Int}
theorem wb0 (hm : xv % 4 = 0) (H : WS w t sb sg kb km ab xv tk W) : Calls Tryz.prog 7 #[.pointer (some ⟨t, 0, none⟩), .agg #[.int .i64 0, .int .u32 1]] W fun e w' => e = .returned (.tuple #[.int .u64 xv, .int .i64 0]) ∧ WS w t sb sg kb km ab xv tk w' := ws_begin false hm H
theorem wb1 (hm : xv % 4 = 1) (H : WS w t sb sg kb km ab xv tk W) : Calls Tryz.prog 7 #[.pointer (some ⟨t, 0, none⟩), .agg #[.int .i64 0, .int .u32 1]] W fun e w' => e = .returned (.tuple #[.int .u64 xv, .int .i64 1]) ∧ WS w t sb sg kb km ab xv tk w' := ws_begin true hm H
theorem wh0 (hm : xv % 4 = 0) (H : WS w t sb sg kb km ab xv tk W) : Calls Tryz.prog 13 #[.pointer (some ⟨t, 0, none⟩)] W fun e w' => e = .returned (.int .i64 0) ∧ WS w t sb sg kb km ab xv tk w' := ws_held false hm H
theorem wh1 (hm : xv % 4 = 1) (H : WS w t sb sg kb km ab xv tk W) : Calls Tryz.prog 13 #[.pointer (some ⟨t, 0, none⟩)] W fun e w' => e = .returned (.int .i64 1) ∧ WS w t sb sg kb km ab xv tk w' := ws_held true hm H
end
set_option maxRecDepth 20000 in
set_option maxHeartbeats 40000000 in
theorem words_any (a : Option Addr) (len cap : Nat) (zs : Nat → Int) (w : World) (hr : RoomsAt w) (hc : ∀ k, k < len → ∃ bl off, a = some ⟨bl, off, none⟩ ∧ bl < w.heap.size ∧ w.cell? ⟨bl, off + k, none⟩ = some (.int .i64 (zs k))) :
    Calls Tryz.prog 3 #[.slice a len cap] w fun e w' => e = .returned (.bool true) ∧ Below w.heap.size w w' := by
  have HA := hid (Aw.awake_any w hr)
  have HC := hid hc
  clear hr hc
  go_enter Tryz.func3, Tryz.ntmps3
  go_wp2_with fail
  refine HA.out.mono ?_
  rintro e w1 ⟨rfl, hb1⟩
  have HB1 := hid hb1
  clear hb1 HA
  by_cases hlen : 150 < len
  · have hl1 : decide ((len : Int) > 150) = true := by simp; omega
    have hl2 : decide ((150 : Int) < len) = true := by simp; omega
    go_wp2_with fail
    go_ret
    exact ⟨rfl, HB1.out⟩
  have hl1 : decide ((len : Int) > 150) = false := by simp; omega
  have hl2 : decide ((150 : Int) < len) = false := by simp; omega
  go_wp2_with fail
  refine (tNew_at 5 w1 (by omega) (by omega)).mono ?_
  rintro e w2 ⟨t, sb, sg, kb, km, rfl, hT, hl, hb2⟩
  have HT := hid hT
  have HL := hid (And.intro hl (And.intro (HB1.out.trans (hb2.mono HB1.out.size)) (And.intro HB1.out.size (And.intro hT.hs.glt hT.hk.lt))))
  clear hT hl hb2
  go_wp2_with fail
  refine (plant5 HT.out).mono ?_
  rintro e w3 ⟨rfl, hT3, hM3⟩
  have hS3 : WS w t sb sg kb km w3.heap.size 0 0 (w3.alloc (.cells #[.int .i64 0, .int .u32 1] 30 (0, 0))) := by
    obtain ⟨hl, hb, hs1, l2, l3, l4⟩ := HL.out
    have hs := hM3.size
    have hb3 : Below w3.heap.size w3 (w3.alloc (.cells #[.int .i64 0, .int .u32 1] 30 (0, 0))) := (Below.refl _ _).alloc (Nat.le_refl _) _
    exact ⟨((Mod.ofBelow hb).trans hM3 (fun i hi e => by rcases e with e | e <;> omega)).trans (mod_below hb3) (fun _ _ e => e), ⟨K.w0, rfl, hT3.keep hb3⟩, heap_new _ _, by omega, by omega, by omega, by omega⟩
  have H := hS3
  clear hT3 hM3 HL HT hS3
  have HB1s := hid HB1.out.size
  clear HB1
  have a0 := cell_of (H).a 0
  have a1 := cell_of (H).a 1
  have HS := hid H
  clear H
  go_wp2_with fail
  clear a0 a1
  refine (ws_begin false (by rfl) HS.out).mono ?_
  rintro e wn ⟨rfl, H⟩
  have HS0 := hid H
  clear H HS HB1s
  simp only [Bool.false_eq_true, if_false]
  go_wp2_with fail
  generalize w3.heap.size = ab at *
  go_loopw [9, 10] (fun tv iv wr => ∃ (k n : Nat) (xv : Int) (h : Bool), k ≤ len ∧ iv = .int .i64 k ∧ tv = .int .i64 n ∧ n ≤ k ∧ xv % 4 = (if h then 1 else 0) ∧ 0 ≤ xv ∧ xv ≤ 4 * k + 1 ∧ WS w t sb sg kb km ab xv n wr) (fun _ iv _ => len - (intOf iv).toNat)
  case atStart => exact ⟨0, 0, 0, false, Nat.zero_le _, rfl, rfl, Nat.le_refl _, rfl, Int.le_refl _, by decide, HS0.out⟩
  case round =>
    obtain ⟨k, n, xv, h, hk, rfl, rfl, hn, hm, hx0, hx1, H⟩ := hrel
    clear HS0
    by_cases hlt : k < len
    · have hd : decide (len ≤ k) = false := by simp; exact hlt
      have HX := hid (And.intro hx0 hx1)
      have hp : zs k % 4 = 0 ∨ zs k % 4 = 1 ∨ zs k % 4 = 2 ∨ zs k % 4 = 3 := by omega
      have hk150 : k ≤ 150 := by omega
      have hxb : xv ≤ 1000 := by omega
      clear hx1
      cases h
      · have HM : Hid (xv % 4 = 0) := hid hm
        clear hm
        rcases hp with hp | hp | hp | hp
        · have HE := hid hp
          clear hp
          have a0 := cell_of (H).a 0
          have a1 := cell_of (H).a 1
          have HS := hid H
          clear H
          go_wp2_with fail
          clear a0 a1
          refine (wb0 HM.out HS.out).mono ?_
          rintro e wn ⟨rfl, H⟩
          obtain ⟨bl, off, rfl, hbl, hcl⟩ := HC.out k hlt
          have r0 := (World.cell?_of_block (w := w) (H.b.block bl hbl (by omega))).trans hcl
          have HC1 := hid hbl
          clear hbl hcl
          have a0 := cell_of (H).a 0
          have a1 := cell_of (H).a 1
          have HS := hid H
          clear H
          go_wp2_with (go_at_call 8; refine (pick_any (zs k) 4 0 _ (by decide) (by decide) HE.out).mono ?_; rintro e wp ⟨rfl, rfl⟩)
          refine (ws_lock_yes HM.out (by omega) (by omega) HS.out).mono ?_
          rintro e wn ⟨rfl, H⟩
          clear a0 a1
          have a0 := cell_of (H).a 0
          have a1 := cell_of (H).a 1
          have HS := hid H
          clear H
          go_wp2_with fail
          refine (ws_lock_no xv (by omega) (.inr (by omega)) (by omega) HS.out).mono ?_
          rintro e wn ⟨rfl, H⟩
          clear a0 a1
          have HN : Hid ((xv + 1) % 4 = 1) := hid (by have := HM.out; omega)
          have a0 := cell_of (H).a 0
          have a1 := cell_of (H).a 1
          have HS := hid H
          clear H
          go_wp2_with fail
          refine (wb1 HN.out HS.out).mono ?_
          rintro e wn ⟨rfl, H⟩
          clear a0 a1
          have HS := hid H
          clear H
          go_wp2_with fail
          refine (wh1 HN.out HS.out).mono ?_
          rintro e wn ⟨rfl, H⟩
          have HS := hid H
          clear H
          go_wp2_with fail
          refine (wh1 HN.out HS.out).mono ?_
          rintro e wn ⟨rfl, H⟩
          have HS := hid H
          clear H
          go_wp2_with fail
          refine (ws_taken HS.out).mono ?_
          rintro e wn ⟨rfl, H⟩
          have a0 := cell_of (H).a 0
          have a1 := cell_of (H).a 1
          have HS := hid H
          clear H
          go_wp2_with fail
          refine (ws_check HS.out).mono ?_
          rintro e wn ⟨rfl, H⟩
          clear a0 a1
          have HS := hid H
          clear H
          go_wp2_with fail
          refine ⟨⟨k + 1, n + 1, _, true, by omega, by go_num, by first | rfl | go_num, by omega, HN.out, by have := HX.out; omega, by have := HX.out; omega, HS.out⟩, by simp [intOf]; omega⟩
        · have HE := hid hp
          clear hp
          have a0 := cell_of (H).a 0
          have a1 := cell_of (H).a 1
          have HS := hid H
          clear H
          go_wp2_with fail
          clear a0 a1
          refine (wb0 HM.out HS.out).mono ?_
          rintro e wn ⟨rfl, H⟩
          obtain ⟨bl, off, rfl, hbl, hcl⟩ := HC.out k hlt
          have r0 := (World.cell?_of_block (w := w) (H.b.block bl hbl (by omega))).trans hcl
          have HC1 := hid hbl
          clear hbl hcl
          have a0 := cell_of (H).a 0
          have a1 := cell_of (H).a 1
          have HS := hid H
          clear H
          go_wp2_with (go_at_call 8; refine (pick_any (zs k) 4 1 _ (by decide) (by decide) HE.out).mono ?_; rintro e wp ⟨rfl, rfl⟩)
          refine (ws_back_no HM.out HS.out).mono ?_
          rintro e wn ⟨rfl, H⟩
          clear a0 a1
          have a0 := cell_of (H).a 0
          have a1 := cell_of (H).a 1
          have HS := hid H
          clear H
          go_wp2_with fail
          refine (wb0 HM.out HS.out).mono ?_
          rintro e wn ⟨rfl, H⟩
          clear a0 a1
          have HN := HM
          have a0 := cell_of (H).a 0
          have a1 := cell_of (H).a 1
          have HS := hid H
          clear H
          go_wp2_with fail
          refine (wb0 HN.out HS.out).mono ?_
          rintro e wn ⟨rfl, H⟩
          clear a0 a1
          have HS := hid H
          clear H
          go_wp2_with fail
          refine (wh0 HN.out HS.out).mono ?_
          rintro e wn ⟨rfl, H⟩
          have HS := hid H
          clear H
          go_wp2_with fail
          refine (wh0 HN.out HS.out).mono ?_
          rintro e wn ⟨rfl, H⟩
          have HS := hid H
          clear H
          go_wp2_with fail
          refine (ws_taken HS.out).mono ?_
          rintro e wn ⟨rfl, H⟩
          have a0 := cell_of (H).a 0
          have a1 := cell_of (H).a 1
          have HS := hid H
          clear H
          go_wp2_with fail
          refine (ws_check HS.out).mono ?_
          rintro e wn ⟨rfl, H⟩
          clear a0 a1
          have HS := hid H
          clear H
          go_wp2_with fail
          refine ⟨⟨k + 1, n, _, false, by omega, by go_num, by first | rfl | go_num, by omega, HN.out, by have := HX.out; omega, by have := HX.out; omega, HS.out⟩, by simp [intOf]; omega⟩
        · have HE := hid hp
          clear hp
          have a0 := cell_of (H).a 0
          have a1 := cell_of (H).a 1
          have HS := hid H
          clear H
          go_wp2_with fail
          clear a0 a1
          refine (wb0 HM.out HS.out).mono ?_
          rintro e wn ⟨rfl, H⟩
          obtain ⟨bl, off, rfl, hbl, hcl⟩ := HC.out k hlt
          have r0 := (World.cell?_of_block (w := w) (H.b.block bl hbl (by omega))).trans hcl
          have HC1 := hid hbl
          clear hbl hcl
          have a0 := cell_of (H).a 0
          have a1 := cell_of (H).a 1
          have HS := hid H
          clear H
          go_wp2_with (go_at_call 8; refine (pick_any (zs k) 4 2 _ (by decide) (by decide) HE.out).mono ?_; rintro e wp ⟨rfl, rfl⟩)
          refine (ws_done_no HM.out HS.out).mono ?_
          rintro e wn ⟨rfl, H⟩
          clear a0 a1
          have a0 := cell_of (H).a 0
          have a1 := cell_of (H).a 1
          have HS := hid H
          clear H
          go_wp2_with fail
          refine (wb0 HM.out HS.out).mono ?_
          rintro e wn ⟨rfl, H⟩
          clear a0 a1
          have HN := HM
          have a0 := cell_of (H).a 0
          have a1 := cell_of (H).a 1
          have HS := hid H
          clear H
          go_wp2_with fail
          refine (wb0 HN.out HS.out).mono ?_
          rintro e wn ⟨rfl, H⟩
          clear a0 a1
          have HS := hid H
          clear H
          go_wp2_with fail
          refine (wh0 HN.out HS.out).mono ?_
          rintro e wn ⟨rfl, H⟩
          have HS := hid H
          clear H
          go_wp2_with fail
          refine (wh0 HN.out HS.out).mono ?_
          rintro e wn ⟨rfl, H⟩
          have HS := hid H
          clear H
          go_wp2_with fail
          refine (ws_taken HS.out).mono ?_
          rintro e wn ⟨rfl, H⟩
          have a0 := cell_of (H).a 0
          have a1 := cell_of (H).a 1
          have HS := hid H
          clear H
          go_wp2_with fail
          refine (ws_check HS.out).mono ?_
          rintro e wn ⟨rfl, H⟩
          clear a0 a1
          have HS := hid H
          clear H
          go_wp2_with fail
          refine ⟨⟨k + 1, n, _, false, by omega, by go_num, by first | rfl | go_num, by omega, HN.out, by have := HX.out; omega, by have := HX.out; omega, HS.out⟩, by simp [intOf]; omega⟩
        · have HE := hid hp
          clear hp
          have a0 := cell_of (H).a 0
          have a1 := cell_of (H).a 1
          have HS := hid H
          clear H
          go_wp2_with fail
          clear a0 a1
          refine (wb0 HM.out HS.out).mono ?_
          rintro e wn ⟨rfl, H⟩
          obtain ⟨bl, off, rfl, hbl, hcl⟩ := HC.out k hlt
          have r0 := (World.cell?_of_block (w := w) (H.b.block bl hbl (by omega))).trans hcl
          have HC1 := hid hbl
          clear hbl hcl
          have a0 := cell_of (H).a 0
          have a1 := cell_of (H).a 1
          have HS := hid H
          clear H
          go_wp2_with (go_at_call 8; refine (pick_any (zs k) 4 3 _ (by decide) (by decide) HE.out).mono ?_; rintro e wp ⟨rfl, rfl⟩)
          refine (ws_kill HS.out).mono ?_
          rintro e wn ⟨rfl, H⟩
          clear a0 a1
          have a0 := cell_of (H).a 0
          have a1 := cell_of (H).a 1
          have HS := hid H
          clear H
          go_wp2_with fail
          refine (ws_lock_no (xv + 4) (by omega) (.inr (by omega)) (by omega) HS.out).mono ?_
          rintro e wn ⟨rfl, H⟩
          clear a0 a1
          have HN := HM
          have a0 := cell_of (H).a 0
          have a1 := cell_of (H).a 1
          have HS := hid H
          clear H
          go_wp2_with fail
          refine (wb0 HN.out HS.out).mono ?_
          rintro e wn ⟨rfl, H⟩
          clear a0 a1
          have HS := hid H
          clear H
          go_wp2_with fail
          refine (wh0 HN.out HS.out).mono ?_
          rintro e wn ⟨rfl, H⟩
          have HS := hid H
          clear H
          go_wp2_with fail
          refine (wh0 HN.out HS.out).mono ?_
          rintro e wn ⟨rfl, H⟩
          have HS := hid H
          clear H
          go_wp2_with fail
          refine (ws_taken HS.out).mono ?_
          rintro e wn ⟨rfl, H⟩
          have a0 := cell_of (H).a 0
          have a1 := cell_of (H).a 1
          have HS := hid H
          clear H
          go_wp2_with fail
          refine (ws_check HS.out).mono ?_
          rintro e wn ⟨rfl, H⟩
          clear a0 a1
          have HS := hid H
          clear H
          go_wp2_with fail
          refine ⟨⟨k + 1, n, _, false, by omega, by go_num, by first | rfl | go_num, by omega, HN.out, by have := HX.out; omega, by have := HX.out; omega, HS.out⟩, by simp [intOf]; omega⟩
      · have HM : Hid (xv % 4 = 1) := hid hm
        clear hm
        have hx2 : 1 ≤ xv := by have := HM.out; omega
        rcases hp with hp | hp | hp | hp
        · have HE := hid hp
          clear hp
          have a0 := cell_of (H).a 0
          have a1 := cell_of (H).a 1
          have HS := hid H
          clear H
          go_wp2_with fail
          clear a0 a1
          refine (wb1 HM.out HS.out).mono ?_
          rintro e wn ⟨rfl, H⟩
          obtain ⟨bl, off, rfl, hbl, hcl⟩ := HC.out k hlt
          have r0 := (World.cell?_of_block (w := w) (H.b.block bl hbl (by omega))).trans hcl
          have HC1 := hid hbl
          clear hbl hcl
          have a0 := cell_of (H).a 0
          have a1 := cell_of (H).a 1
          have HS := hid H
          clear H
          go_wp2_with (go_at_call 8; refine (pick_any (zs k) 4 0 _ (by decide) (by decide) HE.out).mono ?_; rintro e wp ⟨rfl, rfl⟩)
          refine (ws_lock_no xv (by omega) (.inl HM.out) (by omega) HS.out).mono ?_
          rintro e wn ⟨rfl, H⟩
          clear a0 a1
          have a0 := cell_of (H).a 0
          have a1 := cell_of (H).a 1
          have HS := hid H
          clear H
          go_wp2_with fail
          refine (ws_lock_no xv (by omega) (.inl HM.out) (by omega) HS.out).mono ?_
          rintro e wn ⟨rfl, H⟩
          clear a0 a1
          have HN := HM
          have a0 := cell_of (H).a 0
          have a1 := cell_of (H).a 1
          have HS := hid H
          clear H
          go_wp2_with fail
          refine (wb1 HN.out HS.out).mono ?_
          rintro e wn ⟨rfl, H⟩
          clear a0 a1
          have HS := hid H
          clear H
          go_wp2_with fail
          refine (wh1 HN.out HS.out).mono ?_
          rintro e wn ⟨rfl, H⟩
          have HS := hid H
          clear H
          go_wp2_with fail
          refine (wh1 HN.out HS.out).mono ?_
          rintro e wn ⟨rfl, H⟩
          have HS := hid H
          clear H
          go_wp2_with fail
          refine (ws_taken HS.out).mono ?_
          rintro e wn ⟨rfl, H⟩
          have a0 := cell_of (H).a 0
          have a1 := cell_of (H).a 1
          have HS := hid H
          clear H
          go_wp2_with fail
          refine (ws_check HS.out).mono ?_
          rintro e wn ⟨rfl, H⟩
          clear a0 a1
          have HS := hid H
          clear H
          go_wp2_with fail
          refine ⟨⟨k + 1, n, _, true, by omega, by go_num, by first | rfl | go_num, by omega, HN.out, by have := HX.out; omega, by have := HX.out; omega, HS.out⟩, by simp [intOf]; omega⟩
        · have HE := hid hp
          clear hp
          have a0 := cell_of (H).a 0
          have a1 := cell_of (H).a 1
          have HS := hid H
          clear H
          go_wp2_with fail
          clear a0 a1
          refine (wb1 HM.out HS.out).mono ?_
          rintro e wn ⟨rfl, H⟩
          obtain ⟨bl, off, rfl, hbl, hcl⟩ := HC.out k hlt
          have r0 := (World.cell?_of_block (w := w) (H.b.block bl hbl (by omega))).trans hcl
          have HC1 := hid hbl
          clear hbl hcl
          have a0 := cell_of (H).a 0
          have a1 := cell_of (H).a 1
          have HS := hid H
          clear H
          go_wp2_with (go_at_call 8; refine (pick_any (zs k) 4 1 _ (by decide) (by decide) HE.out).mono ?_; rintro e wp ⟨rfl, rfl⟩)
          refine (ws_back_yes HM.out (by omega) HS.out).mono ?_
          rintro e wn ⟨rfl, H⟩
          clear a0 a1
          have HN : Hid ((xv - 1) % 4 = 0) := hid (by have := HM.out; omega)
          have a0 := cell_of (H).a 0
          have a1 := cell_of (H).a 1
          have HS := hid H
          clear H
          go_wp2_with fail
          refine (wb0 HN.out HS.out).mono ?_
          rintro e wn ⟨rfl, H⟩
          clear a0 a1
          have a0 := cell_of (H).a 0
          have a1 := cell_of (H).a 1
          have HS := hid H
          clear H
          go_wp2_with fail
          refine (wb0 HN.out HS.out).mono ?_
          rintro e wn ⟨rfl, H⟩
          clear a0 a1
          have HS := hid H
          clear H
          go_wp2_with fail
          refine (wh0 HN.out HS.out).mono ?_
          rintro e wn ⟨rfl, H⟩
          have HS := hid H
          clear H
          go_wp2_with fail
          refine (wh0 HN.out HS.out).mono ?_
          rintro e wn ⟨rfl, H⟩
          have HS := hid H
          clear H
          go_wp2_with fail
          refine (ws_taken HS.out).mono ?_
          rintro e wn ⟨rfl, H⟩
          have a0 := cell_of (H).a 0
          have a1 := cell_of (H).a 1
          have HS := hid H
          clear H
          go_wp2_with fail
          refine (ws_check HS.out).mono ?_
          rintro e wn ⟨rfl, H⟩
          clear a0 a1
          have HS := hid H
          clear H
          go_wp2_with fail
          refine ⟨⟨k + 1, n, _, false, by omega, by go_num, by first | rfl | go_num, by omega, HN.out, by have := HX.out; omega, by have := HX.out; omega, HS.out⟩, by simp [intOf]; omega⟩
        · have HE := hid hp
          clear hp
          have a0 := cell_of (H).a 0
          have a1 := cell_of (H).a 1
          have HS := hid H
          clear H
          go_wp2_with fail
          clear a0 a1
          refine (wb1 HM.out HS.out).mono ?_
          rintro e wn ⟨rfl, H⟩
          obtain ⟨bl, off, rfl, hbl, hcl⟩ := HC.out k hlt
          have r0 := (World.cell?_of_block (w := w) (H.b.block bl hbl (by omega))).trans hcl
          have HC1 := hid hbl
          clear hbl hcl
          have a0 := cell_of (H).a 0
          have a1 := cell_of (H).a 1
          have HS := hid H
          clear H
          go_wp2_with (go_at_call 8; refine (pick_any (zs k) 4 2 _ (by decide) (by decide) HE.out).mono ?_; rintro e wp ⟨rfl, rfl⟩)
          refine (ws_done_yes HM.out (by omega) HS.out).mono ?_
          rintro e wn ⟨rfl, H⟩
          clear a0 a1
          have HN : Hid ((xv + 3) % 4 = 0) := hid (by have := HM.out; omega)
          have a0 := cell_of (H).a 0
          have a1 := cell_of (H).a 1
          have HS := hid H
          clear H
          go_wp2_with fail
          refine (wb0 HN.out HS.out).mono ?_
          rintro e wn ⟨rfl, H⟩
          clear a0 a1
          have a0 := cell_of (H).a 0
          have a1 := cell_of (H).a 1
          have HS := hid H
          clear H
          go_wp2_with fail
          refine (wb0 HN.out HS.out).mono ?_
          rintro e wn ⟨rfl, H⟩
          clear a0 a1
          have HS := hid H
          clear H
          go_wp2_with fail
          refine (wh0 HN.out HS.out).mono ?_
          rintro e wn ⟨rfl, H⟩
          have HS := hid H
          clear H
          go_wp2_with fail
          refine (wh0 HN.out HS.out).mono ?_
          rintro e wn ⟨rfl, H⟩
          have HS := hid H
          clear H
          go_wp2_with fail
          refine (ws_taken HS.out).mono ?_
          rintro e wn ⟨rfl, H⟩
          have a0 := cell_of (H).a 0
          have a1 := cell_of (H).a 1
          have HS := hid H
          clear H
          go_wp2_with fail
          refine (ws_check HS.out).mono ?_
          rintro e wn ⟨rfl, H⟩
          clear a0 a1
          have HS := hid H
          clear H
          go_wp2_with fail
          refine ⟨⟨k + 1, n, _, false, by omega, by go_num, by first | rfl | go_num, by omega, HN.out, by have := HX.out; omega, by have := HX.out; omega, HS.out⟩, by simp [intOf]; omega⟩
        · have HE := hid hp
          clear hp
          have a0 := cell_of (H).a 0
          have a1 := cell_of (H).a 1
          have HS := hid H
          clear H
          go_wp2_with fail
          clear a0 a1
          refine (wb1 HM.out HS.out).mono ?_
          rintro e wn ⟨rfl, H⟩
          obtain ⟨bl, off, rfl, hbl, hcl⟩ := HC.out k hlt
          have r0 := (World.cell?_of_block (w := w) (H.b.block bl hbl (by omega))).trans hcl
          have HC1 := hid hbl
          clear hbl hcl
          have a0 := cell_of (H).a 0
          have a1 := cell_of (H).a 1
          have HS := hid H
          clear H
          go_wp2_with (go_at_call 8; refine (pick_any (zs k) 4 3 _ (by decide) (by decide) HE.out).mono ?_; rintro e wp ⟨rfl, rfl⟩)
          refine (ws_kill HS.out).mono ?_
          rintro e wn ⟨rfl, H⟩
          clear a0 a1
          have a0 := cell_of (H).a 0
          have a1 := cell_of (H).a 1
          have HS := hid H
          clear H
          go_wp2_with fail
          refine (ws_lock_no (xv + 4) (by omega) (.inl HM.out) (by omega) HS.out).mono ?_
          rintro e wn ⟨rfl, H⟩
          clear a0 a1
          have HN := HM
          have a0 := cell_of (H).a 0
          have a1 := cell_of (H).a 1
          have HS := hid H
          clear H
          go_wp2_with fail
          refine (wb1 HN.out HS.out).mono ?_
          rintro e wn ⟨rfl, H⟩
          clear a0 a1
          have HS := hid H
          clear H
          go_wp2_with fail
          refine (wh1 HN.out HS.out).mono ?_
          rintro e wn ⟨rfl, H⟩
          have HS := hid H
          clear H
          go_wp2_with fail
          refine (wh1 HN.out HS.out).mono ?_
          rintro e wn ⟨rfl, H⟩
          have HS := hid H
          clear H
          go_wp2_with fail
          refine (ws_taken HS.out).mono ?_
          rintro e wn ⟨rfl, H⟩
          have a0 := cell_of (H).a 0
          have a1 := cell_of (H).a 1
          have HS := hid H
          clear H
          go_wp2_with fail
          refine (ws_check HS.out).mono ?_
          rintro e wn ⟨rfl, H⟩
          clear a0 a1
          have HS := hid H
          clear H
          go_wp2_with fail
          refine ⟨⟨k + 1, n, _, true, by omega, by go_num, by first | rfl | go_num, by omega, HN.out, by have := HX.out; omega, by have := HX.out; omega, HS.out⟩, by simp [intOf]; omega⟩
    · obtain rfl : k = len := by omega
      have hd : decide (k ≤ k) = true := by simp
      have HS := hid H
      clear H
      go_wp2_with fail
      go_ret
      exact ⟨rfl, HS.out.b.below (Nat.le_refl _) (fun i hi e => by have e2 : w.heap.size ≤ i := e; omega)⟩
end Ws
end Go.Proofs.YtnngicopphiaaaaGreatDoor.T

namespace Go.Burg
open Go Go.RowKit Go.ChangeShapes Go.WideShapes
section
variable {H : Type} {enc : TypeId × Value → H} {P : Program} {w : World} {base : Nat} {spare : Nat → Bool} {held : Bool}
def FlatAt (w : World) (a : Option Addr) (len c : Nat) (good : List Value → Prop) : Prop :=
  0 < len → ∃ bl off, a = some ⟨bl, off, none⟩ ∧ bl < w.heap.size ∧ ∀ i, i < len → ∃ cs : List Value, good cs ∧ ∀ j, j < c → w.cell? ⟨bl, off + i * c + j, none⟩ = cs[j]?
theorem open_flat {t e : TypeId} {a : Option Addr} {len cap : Nat} {d : DataW H} {p : List MemPlace} (ht : P.underlying t = some (.slice e)) (hc : 0 < P.cellsOf e) (good : List Value → Prop)
    (hg : ∀ n cs x, DataW.trod enc P w base spare held n e cs = some x → good cs) (h : DataW.Trod enc P w base spare held t (.slice a len cap) d p) : FlatAt w a len (P.cellsOf e) good := by
  intro hlen
  obtain ⟨fuel, hf⟩ := h
  rcases Deep.open_slice ht hf with ⟨hcs, _⟩ | ⟨ad, len', cap', m, n, D, Pl, hcs, _, hl, _, hm, _, hall⟩
  · simp [Value.cells] at hcs
    omega
  · simp [Value.cells] at hcs
    obtain ⟨rfl, rfl, rfl⟩ := hcs
    have hlm : len ≤ m := by rw [hm]; split <;> omega
    have hcell : ∀ i, i < len → ∃ cs : List Value, good cs ∧ cs.length = P.cellsOf e ∧ ∀ j, j < P.cellsOf e → w.cell? ((ad.add (i * P.cellsOf e)).add j) = cs[j]? := fun i hi => by
      obtain ⟨cs', h1, h2⟩ := hall i (by omega)
      obtain ⟨_, h3, h4⟩ := World.cells?_some h1
      exact ⟨cs', hg _ _ _ h2, h3, h4⟩
    obtain ⟨cs0, _, hl0, h0⟩ := hcell 0 hlen
    have h00 := h0 0 hc
    obtain ⟨v, hv⟩ : ∃ v, cs0[0]? = some v := ⟨cs0[0], by simp [hl0, hc]⟩
    rw [hv] at h00
    have hsp := World.cell?_spot h00
    have hlt := World.block_lt_of_cell? _ _ h00
    obtain ⟨bl, off, spot⟩ := ad
    have hspot : spot = none := by simpa [Addr.add] using hsp
    subst hspot
    refine ⟨bl, off, rfl, by simpa [Addr.add] using hlt, fun i hi => ?_⟩
    obtain ⟨cs, g1, _, g3⟩ := hcell i hi
    refine ⟨cs, g1, fun j hj => ?_⟩
    have := g3 j hj
    rw [Deep.add_add] at this
    rw [← this]
    congr 1
    unfold Addr.add
    split
    · rename_i hz
      have h1 : i * P.cellsOf e = 0 := by omega
      have h2 : j = 0 := by omega
      rw [h1, h2]
      simp
    · simp [Nat.add_assoc]
end
end Go.Burg
