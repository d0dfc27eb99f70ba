/- Part 42 of 51 of a proof: lemmas on the functions that it reaches. -/
import Derived.Test.YtnngicopphiaaaaGreatDoorC41
import Derived.Test.YtnngicopphiaaaaGreatDoorC34
import Derived.Test.YtnngicopphiaaaaGreatDoorC20
import Derived.Test.YtnngicopphiaaaaGreatDoorC03
namespace Go.Proofs.YtnngicopphiaaaaGreatDoor.T
set_option maxRecDepth 8000
open Go.ChangeShapes Go.WideShapes Go.ChangeAt Go.RowKit Go.Burg
open Go.Burg.Lk
set_option maxRecDepth 20000 in
set_option maxHeartbeats 4000000 in
theorem Plan_drop {t sb sg kb km i : Nat} {l : List (Cel Nd)} {P : List (Cel PNd)} {L : List (RefK × Wd)} {tk : Int} {slot gen : Int} {c : ByteArray} {q : PNd} {s : SpotP} (w : World) (h : TreeAt w t sb sg kb km l L tk) (hR : Rel w l P) (hr : RoomsAt w) (hc : Coded c) (hq : LiveP P slot gen i q) (hp : q.planted = true) (hs : SeekW P c (slot, gen) 0 [] s) (hw : s.what = 1) (Q : World → Value → Value → Prop)
    (hQ : ∀ w1 w2 u lv dv cs, w.heap.size ≤ u → Q w1 lv dv → w1.heap[u]? = some (.cells cs 47 (0, 0)) → Mod (· = u) w1 w2 → Q w2 lv dv)
    (hask : ∀ w1 b g wc, Below w.heap.size w w1 → SpotAt w1 b g wc s → s.way.length ≤ wc → w.heap.size ≤ b → w.heap.size ≤ g → Calls Tryz.prog 45 #[.pointer (some ⟨t, 0, none⟩), .pointer (some ⟨b, 0, none⟩)] w1 fun e w' => ∃ la ln lc da dn dc, e = .returned (.agg #[.slice la ln lc, .slice da dn dc, .int .i64 0]) ∧ Q w' (.slice la ln lc) (.slice da dn dc) ∧ Below w1.heap.size w1 w') :
    Calls Tryz.prog 17 #[.pointer (some ⟨t, 0, none⟩), .agg #[.int .i64 slot, .int .u32 gen], .string c, .bool false] w fun e w' => ∃ la ln lc da dn dc, e = .returned (.tuple #[.agg #[.slice la ln lc, .slice da dn dc, .int .i64 0], .int .i64 0]) ∧ Q w' (.slice la ln lc) (.slice da dn dc) ∧ Below w.heap.size w w' := by
  have hs1 : (w.alloc (.cells #[.int .i64 slot, .int .u32 gen] 30 (0, 0))).heap.size = w.heap.size + 1 := by simp
  have b0 := blk_alloc (o' := (.cells #[.slice none 0 0, .slice none 0 0, .int .i64 0] 47 (0, 0))) (heap_new w (.cells #[.int .i64 slot, .int .u32 gen] 30 (0, 0)))
  have b1 := heap_new (w.alloc (.cells #[.int .i64 slot, .int .u32 gen] 30 (0, 0))) (.cells #[.slice none 0 0, .slice none 0 0, .int .i64 0] 47 (0, 0))
  rw [hs1] at b1
  have hB : Below w.heap.size w ((w.alloc (.cells #[.int .i64 slot, .int .u32 gen] 30 (0, 0))).alloc (.cells #[.slice none 0 0, .slice none 0 0, .int .i64 0] 47 (0, 0))) := ((Below.refl _ _).alloc (Nat.le_refl _) _).alloc (by simp) _
  have HSK := hid (Seek_at ((w.alloc (.cells #[.int .i64 slot, .int .u32 gen] 30 (0, 0))).alloc (.cells #[.slice none 0 0, .slice none 0 0, .int .i64 0] 47 (0, 0))) (h.keep hB) (hR.keep hB) (hr.keep hB) hc hq hp hs)
  have HWH := hid hw
  have HASK := hid hask
  have HQQ := hid hQ
  have HS := hid hs
  have HWM : Hid (s.way.length ≤ 100) := hid (by have h1 := SeekW.way_le hs; have h2 := hc.size; simp only [List.length_nil] at h1; omega)
  clear h hR hr hc hq hp hs hw hask hs1 hQ
  go_enter Tryz.func17, Tryz.ntmps17
  go_wp2_with (first | (go_at_call 36; refine HSK.out.mono ?_; rintro e w2 ⟨wa, wc, rfl, how, hb2⟩; go_loud (obtain ⟨g, rfl, lg, _⟩ := O.own_cells (own_le how (Nat.zero_le _)) (SeekW.way_pos HS.out); rw [HWH.out]; have hsp := heap_new w2 (.cells #[.int .i64 1, .slice (some ⟨g, 0, none⟩) s.way.length wc, .int .i64 s.at_, .int .i64 s.depth] 79 (0, 0)); have hb24 : Below w2.heap.size w2 (w2.alloc (.cells #[.int .i64 1, .slice (some ⟨g, 0, none⟩) s.way.length wc, .int .i64 s.at_, .int .i64 s.depth] 79 (0, 0))) := (Below.refl _ _).alloc (Nat.le_refl _) _; have how4 := O.own_mod how (O.mod_of_below (S := fun _ => False) hb24) (fun _ _ h => h); have hSA : SpotAt (w2.alloc (.cells #[.int .i64 1, .slice (some ⟨g, 0, none⟩) s.way.length wc, .int .i64 s.at_, .int .i64 s.depth] 79 (0, 0))) w2.heap.size g wc s := ⟨(by first | exact hsp | (rw [HWH.out]; exact hsp)), own_le how4 (Nat.zero_le _), SeekW.way_pos HS.out, HWM.out⟩; have q0 := cell_of hsp 0; have hbw2 := hB.trans (hb2.mono hB.size); have hbw4 := hbw2.trans (hb24.mono hbw2.size); have h12 := (hb2.block _ (lt_of_block b1)).trans b1; have hg0 := (show _ ≤ g from (O.own_ge how rfl).1); have HA := hid (HASK.out (w2.alloc (.cells #[.int .i64 1, .slice (some ⟨g, 0, none⟩) s.way.length wc, .int .i64 s.at_, .int .i64 s.depth] 79 (0, 0))) w2.heap.size g wc hbw4 hSA (own_cap how) (by have := hbw2.size; omega) (by have := hB.size; omega)); have H1 := hid ((hb24.block _ (lt_of_block h12)).trans h12); have HB4 := hid hbw4; clear how lg hsp hb24 how4 hSA hbw2 hbw4 h12 hg0 hb2)) | (go_at_call 45; refine HA.out.mono ?_; rintro e w5 ⟨la, ln, lc, da, dn, dc, rfl, hqd, hb5⟩; go_loud (have h1 := (hb5.block _ (lt_of_block H1.out)).trans H1.out; have p0 := cell_of h1 0; have p1 := cell_of h1 1; have p2 := cell_of h1 2; have pf := free_of h1; have H15 := hid h1; have HQD := hid hqd; have HB5 := hid (HB4.out.trans (hb5.mono HB4.out.size)); clear h1 hqd hb5)))
  obtain ⟨m1, m2⟩ := set3_at (.slice la ln lc) (.slice da dn dc) (.int .i64 0) H15.out
  have e0 := lt_of_block H15.out
  obtain ⟨fs, hus⟩ : ∃ fs, Tryz.prog.underlying 47 = some (.struct fs) := ⟨_, rfl⟩
  have hR := fun tm hp => results_ct (P := Tryz.prog) (fn := Tryz.f17) (p := 8) (u := 9) (ty := 47) (by kernel_rfl) tm _ (w.heap.size + 1) _ _ _ _ hp m1 hus rfl (by kernel_rfl)
  refine bodyPost_ret (hR _ ?hp) ?hd ?post
  case hp => rfl
  case hd => rfl
  case post => exact ⟨la, ln, lc, da, dn, dc, rfl, HQQ.out _ _ _ _ _ _ (by omega) HQD.out H15.out m2, below_mods HB5.out m2 (by omega) (by omega)⟩
end Go.Proofs.YtnngicopphiaaaaGreatDoor.T

namespace Go.Burg
open Go Go.RowKit
def otherK (k0 k1 : Kd) (y : Int) : Kd := if k0.b = y then k1 else k0
theorem findK_two {k0 k1 : Kd} {y : Int} (h : (findK [k0, k1] y).isSome = true) : k0.b = y ∨ k1.b = y := by
  rcases Decidable.em (k0.b = y) with h1 | h1
  · exact .inl h1
  · rcases Decidable.em (k1.b = y) with h2 | h2
    · exact .inr h2
    · simp [findK, h1, h2] at h
end Go.Burg
namespace Go.Proofs.YtnngicopphiaaaaGreatDoor.O
set_option maxRecDepth 8000
open Go.ChangeShapes Go.WideShapes Go.ChangeAt Go.RowKit Go.Burg
section
variable {w w' : World} {k : Nat} {pt : ByteArray} {ya za : Option Addr} {yn yc zn zc : Nat}
set_option maxRecDepth 20000 in
set_option maxHeartbeats 4000000 in
theorem Rest_at (k0 k1 : Kd) (y : Int) (hy : 0 ≤ y ∧ y < 256) (h : NodeIn w k pt ya yn yc za zn zc [k0, k1]) (hr : RoomsAt w) (hm : MayB k zn pt) (hf : (findK [k0, k1] y).isSome = true) :
    Calls Tryz.prog 53 #[(.agg #[.int .i64 k, .string ⟨#[]⟩, .string ⟨#[]⟩, .string pt, .slice ya yn yc, .slice za zn zc]), .int .u8 y] w fun e w' => e = .returned (.tuple #[.int .u8 (otherK k0 k1 y).b, .agg #[.int .i64 (otherK k0 k1 y).s, .int .u32 (otherK k0 k1 y).g], .bool true]) ∧ Below w.heap.size w w' := by
  have hs1 : (w.alloc (.cells #[.int .i64 k, .string ⟨#[]⟩, .string ⟨#[]⟩, .string pt, .slice ya yn yc, .slice za zn zc] 53 (0, 0))).heap.size = w.heap.size + 1 := by simp
  have b0 := blk_alloc2 (o' := (.cells #[.int .i64 0, .int .u32 0] 30 (0, 0))) (heap_new w (.cells #[.int .i64 k, .string ⟨#[]⟩, .string ⟨#[]⟩, .string pt, .slice ya yn yc, .slice za zn zc] 53 (0, 0)))
  have b1 := heap_new (w.alloc (.cells #[.int .i64 k, .string ⟨#[]⟩, .string ⟨#[]⟩, .string pt, .slice ya yn yc, .slice za zn zc] 53 (0, 0))) (.cells #[.int .i64 0, .int .u32 0] 30 (0, 0))
  rw [hs1] at b1
  have hB : Below w.heap.size w ((w.alloc (.cells #[.int .i64 k, .string ⟨#[]⟩, .string ⟨#[]⟩, .string pt, .slice ya yn yc, .slice za zn zc] 53 (0, 0))).alloc (.cells #[.int .i64 0, .int .u32 0] 30 (0, 0))) := ((Below.refl _ _).alloc (Nat.le_refl _) _).alloc (by simp) _
  have hFD := Find_at y hy (h.keep hB) (hr.keep hB) hm
  rw [hf] at hFD
  have HFD := hid hFD
  have hyn := own_len h.b
  have hzn := own_len h.z
  simp only [List.length_cons, List.length_nil, Nat.zero_add, Nat.reduceAdd] at hyn hzn
  subst hyn hzn
  obtain ⟨gy, rfl, ly, cy⟩ := own_cells h.b (by simp)
  obtain ⟨gz, rfl, lz, cz⟩ := own_cells h.z (by simp)
  have HCY := hid cy
  have HCZ := hid cz
  have HR := hid h.rise
  have HF := hid (findK_two hf)
  clear h hr hm hf hFD cy cz hs1
  go_enter Tryz.func53, Tryz.ntmps53
  go_wp2_with (go_at_call 75; refine HFD.out.mono ?_; rintro e w2 ⟨rfl, hB2⟩; go_loud (have h0 := (hB2.block _ (lt_of_block b0)).trans b0; have h1 := (hB2.block _ (lt_of_block b1)).trans b1; have c4 := fun o => cell_of (blk_alloc2 (o' := o) h0) 4; have c5 := fun o => cell_of (blk_alloc2 (o' := o) h0) 5; have H0 := hid h0; have hBB := hB.trans (hB2.mono hB.size); have H1 := hid h1; have HBB := hid hBB; clear h0 h1 hB2 b0 b1 hB hBB HFD))
  have H0w : Hid ((w2.alloc (.cells #[.int .i64 ((findK [k0, k1] y).elim 0 Kd.s), .int .u32 ((findK [k0, k1] y).elim 0 Kd.g)] 30 (0, 0))).heap[w.heap.size]? = some (.cells #[.int .i64 k, .string ⟨#[]⟩, .string ⟨#[]⟩, .string pt, .slice (some ⟨gy, 0, none⟩) 2 yc, .slice (some ⟨gz, 0, none⟩) 2 zc] 53 (0, 0))) := hid (blk_alloc2 H0.out)
  have H1w : Hid ((w2.alloc (.cells #[.int .i64 ((findK [k0, k1] y).elim 0 Kd.s), .int .u32 ((findK [k0, k1] y).elim 0 Kd.g)] 30 (0, 0))).heap[w.heap.size + 1]? = some (.cells #[.int .i64 0, .int .u32 0] 30 (0, 0))) := hid (blk_alloc2 H1.out)
  have HBw : Hid (Below w.heap.size w (w2.alloc (.cells #[.int .i64 ((findK [k0, k1] y).elim 0 Kd.s), .int .u32 ((findK [k0, k1] y).elim 0 Kd.g)] 30 (0, 0)))) := hid (HBB.out.alloc HBB.out.size _)
  generalize w2.alloc (.cells #[.int .i64 ((findK [k0, k1] y).elim 0 Kd.s), .int .u32 ((findK [k0, k1] y).elim 0 Kd.g)] 30 (0, 0)) = W at *
  have hy0 : W.cell? ⟨gy, 0, none⟩ = some (.int .u8 k0.b) := (World.cell?_of_block (w := w) (HBw.out.block gy ly)).trans (HCY.out 0 _ rfl)
  have hy1 : W.cell? ⟨gy, 1, none⟩ = some (.int .u8 k1.b) := (World.cell?_of_block (w := w) (HBw.out.block gy ly)).trans (HCY.out 1 _ rfl)
  have hz0 : W.cell? ⟨gz, 0, none⟩ = some (.int .i64 k0.s) := (World.cell?_of_block (w := w) (HBw.out.block gz lz)).trans (HCZ.out 0 _ rfl)
  have hz1 : W.cell? ⟨gz, 1, none⟩ = some (.int .u32 k0.g) := (World.cell?_of_block (w := w) (HBw.out.block gz lz)).trans (HCZ.out 1 _ rfl)
  have hz2 : W.cell? ⟨gz, 2, none⟩ = some (.int .i64 k1.s) := (World.cell?_of_block (w := w) (HBw.out.block gz lz)).trans (HCZ.out 2 _ rfl)
  have hz3 : W.cell? ⟨gz, 3, none⟩ = some (.int .u32 k1.g) := (World.cell?_of_block (w := w) (HBw.out.block gz lz)).trans (HCZ.out 3 _ rfl)
  have HLZ := hid (And.intro lz (And.intro (lt_of_block H1w.out) HBw.out.size))
  have HZS := hid (And.intro hz0 (And.intro hz1 (And.intro hz2 hz3)))
  clear hz0 hz1 hz2 hz3 HCY HCZ c4 c5 H0 H1 HBB lz ly hy
  go_loopw [29] (fun iv wr => (iv = .int .i64 0 ∨ (iv = .int .i64 1 ∧ k0.b = y)) ∧ wr = W) (fun iv _ => 2 - (intOf iv).toNat)
  case atStart => exact ⟨.inl rfl, rfl⟩
  case round =>
    obtain ⟨rfl | ⟨rfl, he⟩, rfl⟩ := hrel
    · by_cases he : k0.b = y
      · have e1 : (k0.b != y) = false := by simp [he]
        have HE := hid he
        clear he
        go_wp2_with fail
        go_roundw
        case rel => exact ⟨.inr ⟨by go_num, HE.out⟩, by first | rfl | trivial⟩
        case measure => simp [intOf]
      · have e1 : (k0.b != y) = true := by simp [he]
        have eo : otherK k0 k1 y = k0 := by unfold otherK; rw [if_neg he]
        clear he
        go_wp2_with fail
        refine wp_region_seqI 9 (Turn 7 (fun w1 => Mod (· = w.heap.size + 1) wr w1 ∧ w1.heap[w.heap.size + 1]? = some (.cells #[.int .i64 0, .int .u32 0] 30 (0, 0))) (fun w1 => Mod (· = w.heap.size + 1) wr w1 ∧ w1.heap[w.heap.size + 1]? = some (.cells #[.int .i64 (k0).s, .int .u32 (k0).g] 30 (0, 0)))) (by kernel_rfl) (by kernel_rfl) (by kernel_rfl) (Turn.start ⟨(Mod.refl _ _).drew, H1w.out⟩) ?_
        dsimp only [List.take]
        iterate 7
          refine Seq.calm (a' := ?_) (by decide) ?_ ?_ ?_
          rotate_left
          ·
            intro w1 hw1
            have hM := hw1.elim (·.1) (·.1)
            have n5 := cell_of ((hM.block w.heap.size (lt_of_block H0w.out) (by show ¬ _ = _; omega)).trans H0w.out) 5
            have ez : w1.heap[gz]? = wr.heap[gz]? := hM.block gz (by have := HLZ.out; omega) (show ¬ gz = w.heap.size + 1 by have := HLZ.out; omega)
            have z0 := (World.cell?_of_block (w := wr) ez).trans HZS.out.1
            have z1 := (World.cell?_of_block (w := wr) ez).trans HZS.out.2.1
            have z2 := (World.cell?_of_block (w := wr) ez).trans HZS.out.2.2.1
            have z3 := (World.cell?_of_block (w := wr) ez).trans HZS.out.2.2.2
            clear hM hw1 ez
            go_wp2_with (fail)
            first | (refine ⟨?_, id, id⟩; exact rfl) | (refine ⟨?_, fail⟩; exact rfl)
          · kernel_rfl
        refine Seq.turn (a' := ?_) ?_ ?_ ?_
        rotate_left
        ·
          intro w1 hw1
          have hM := hw1.1
          have hc := hw1.2
          have q0 := cell_of hc 0
          have q1 := cell_of hc 1
          have qf := free_of hc
          have HC := hid hc
          have HM := hid hM
          clear hw1 hM hc
          go_wp2_with fail
          refine ⟨?_, HM.out.trans (mod_set2 _ _ _ _) (fun _ _ h => h), set2_at HC.out⟩
          exact rfl
        · kernel_rfl
        iterate 1
          refine Seq.calm (a' := ?_) (by decide) ?_ ?_ ?_
          rotate_left
          ·
            intro w1 hw1
            have hM := hw1.elim (·.1) (·.1)
            have n5 := cell_of ((hM.block w.heap.size (lt_of_block H0w.out) (by show ¬ _ = _; omega)).trans H0w.out) 5
            have ez : w1.heap[gz]? = wr.heap[gz]? := hM.block gz (by have := HLZ.out; omega) (show ¬ gz = w.heap.size + 1 by have := HLZ.out; omega)
            have z0 := (World.cell?_of_block (w := wr) ez).trans HZS.out.1
            have z1 := (World.cell?_of_block (w := wr) ez).trans HZS.out.2.1
            have z2 := (World.cell?_of_block (w := wr) ez).trans HZS.out.2.2.1
            have z3 := (World.cell?_of_block (w := wr) ez).trans HZS.out.2.2.2
            clear hM hw1 ez
            go_wp2_with (fail)
            first | (refine ⟨?_, id, id⟩; exact rfl) | (refine ⟨?_, fail⟩; exact rfl)
          · kernel_rfl
        refine SeqI.nil ?_
        intro D w1 hD hI
        replace hI := hI.done (hD 7 (by omega))
        clear hD
        dsimp only [List.drop]
        obtain ⟨hM, hc⟩ := hI
        have q0 := cell_of hc 0
        have q1 := cell_of hc 1
        go_wp2_with fail
        refine bodyPost_ret (v := .tuple #[.int .u8 (k0).b, .agg #[.int .i64 (k0).s, .int .u32 (k0).g], .bool true]) (by simp [results, Tryz.results53, go_sem, q0, q1]) rfl ⟨by rw [eo], ?_⟩
        exact HBw.out.trans ⟨hM.os, hM.tape, hM.output, hM.size, fun k hk => hM.block k (by have := HLZ.out; omega) (show ¬ k = w.heap.size + 1 by omega)⟩
    · have eo : otherK k0 k1 y = k1 := by unfold otherK; rw [if_pos he]
      have hlt : k0.b < k1.b := (List.pairwise_cons.1 HR.out).1 k1 (by simp)
      have e1 : (k1.b != y) = true := by simp; omega
      clear he hlt
      go_wp2_with fail
      refine wp_region_seqI 9 (Turn 7 (fun w1 => Mod (· = w.heap.size + 1) wr w1 ∧ w1.heap[w.heap.size + 1]? = some (.cells #[.int .i64 0, .int .u32 0] 30 (0, 0))) (fun w1 => Mod (· = w.heap.size + 1) wr w1 ∧ w1.heap[w.heap.size + 1]? = some (.cells #[.int .i64 (k1).s, .int .u32 (k1).g] 30 (0, 0)))) (by kernel_rfl) (by kernel_rfl) (by kernel_rfl) (Turn.start ⟨(Mod.refl _ _).drew, H1w.out⟩) ?_
      dsimp only [List.take]
      iterate 7
        refine Seq.calm (a' := ?_) (by decide) ?_ ?_ ?_
        rotate_left
        ·
          intro w1 hw1
          have hM := hw1.elim (·.1) (·.1)
          have n5 := cell_of ((hM.block w.heap.size (lt_of_block H0w.out) (by show ¬ _ = _; omega)).trans H0w.out) 5
          have ez : w1.heap[gz]? = wr.heap[gz]? := hM.block gz (by have := HLZ.out; omega) (show ¬ gz = w.heap.size + 1 by have := HLZ.out; omega)
          have z0 := (World.cell?_of_block (w := wr) ez).trans HZS.out.1
          have z1 := (World.cell?_of_block (w := wr) ez).trans HZS.out.2.1
          have z2 := (World.cell?_of_block (w := wr) ez).trans HZS.out.2.2.1
          have z3 := (World.cell?_of_block (w := wr) ez).trans HZS.out.2.2.2
          clear hM hw1 ez
          go_wp2_with (fail)
          first | (refine ⟨?_, id, id⟩; exact rfl) | (refine ⟨?_, fail⟩; exact rfl)
        · kernel_rfl
      refine Seq.turn (a' := ?_) ?_ ?_ ?_
      rotate_left
      ·
        intro w1 hw1
        have hM := hw1.1
        have hc := hw1.2
        have q0 := cell_of hc 0
        have q1 := cell_of hc 1
        have qf := free_of hc
        have HC := hid hc
        have HM := hid hM
        clear hw1 hM hc
        go_wp2_with fail
        refine ⟨?_, HM.out.trans (mod_set2 _ _ _ _) (fun _ _ h => h), set2_at HC.out⟩
        exact rfl
      · kernel_rfl
      iterate 1
        refine Seq.calm (a' := ?_) (by decide) ?_ ?_ ?_
        rotate_left
        ·
          intro w1 hw1
          have hM := hw1.elim (·.1) (·.1)
          have n5 := cell_of ((hM.block w.heap.size (lt_of_block H0w.out) (by show ¬ _ = _; omega)).trans H0w.out) 5
          have ez : w1.heap[gz]? = wr.heap[gz]? := hM.block gz (by have := HLZ.out; omega) (show ¬ gz = w.heap.size + 1 by have := HLZ.out; omega)
          have z0 := (World.cell?_of_block (w := wr) ez).trans HZS.out.1
          have z1 := (World.cell?_of_block (w := wr) ez).trans HZS.out.2.1
          have z2 := (World.cell?_of_block (w := wr) ez).trans HZS.out.2.2.1
          have z3 := (World.cell?_of_block (w := wr) ez).trans HZS.out.2.2.2
          clear hM hw1 ez
          go_wp2_with (fail)
          first | (refine ⟨?_, id, id⟩; exact rfl) | (refine ⟨?_, fail⟩; exact rfl)
        · kernel_rfl
      refine SeqI.nil ?_
      intro D w1 hD hI
      replace hI := hI.done (hD 7 (by omega))
      clear hD
      dsimp only [List.drop]
      obtain ⟨hM, hc⟩ := hI
      have q0 := cell_of hc 0
      have q1 := cell_of hc 1
      go_wp2_with fail
      refine bodyPost_ret (v := .tuple #[.int .u8 (k1).b, .agg #[.int .i64 (k1).s, .int .u32 (k1).g], .bool true]) (by simp [results, Tryz.results53, go_sem, q0, q1]) rfl ⟨by rw [eo], ?_⟩
      exact HBw.out.trans ⟨hM.os, hM.tape, hM.output, hM.size, fun k hk => hM.block k (by have := HLZ.out; omega) (show ¬ k = w.heap.size + 1 by omega)⟩
end
end Go.Proofs.YtnngicopphiaaaaGreatDoor.O
