/- Part 41 of 51 of a proof: lemmas on the functions that it reaches. -/
import Derived.Test.YtnngicopphiaaaaGreatDoorC40
namespace Go.Proofs.YtnngicopphiaaaaGreatDoor.T
set_option maxRecDepth 8000
open Go.ChangeShapes Go.WideShapes Go.ChangeAt Go.RowKit Go.Burg
open Go.Burg.Lk
theorem clone3 {b g wc ix : Nat} {s : SpotP} {r0 r1 r2 : Int × Int} (w : World) (hs : SpotAt w b g wc s) (h0 : s.way[ix]? = some r0) (h1 : s.way[ix + 1]? = some r1) (h2 : s.way[ix + 2]? = some r2) :
    Calls Tryz.prog 50 #[.slice (some ⟨g, ix * 2, none⟩) 3 (wc - ix)] w fun e w' => ∃ g' cap, e = .returned (.slice (some ⟨g', 0, none⟩) 3 cap) ∧ w'.ownsRow w.heap.size 30 2 (.slice (some ⟨g', 0, none⟩) 3 cap) 3 (refsL [r0, r1, r2]) ∧ Below w.heap.size w w' := by
  refine rclone_off (refsL [r0, r1, r2]) w hs.glt ?_ rfl ?_ (by omega) (by omega)
  · intro j v hj
    have hjl : j < 6 := (List.getElem?_eq_some_iff.1 hj).1
    rcases (by omega : j = 0 ∨ j = 1 ∨ j = 2 ∨ j = 3 ∨ j = 4 ∨ j = 5) with rfl | rfl | rfl | rfl | rfl | rfl <;> cases hj
    · exact (hs.ref h0).1
    · exact (hs.ref h0).2
    · have := (hs.ref h1).1; rwa [show (ix + 1) * 2 = ix * 2 + 2 by omega] at this
    · have := (hs.ref h1).2; rwa [show (ix + 1) * 2 + 1 = ix * 2 + 3 by omega] at this
    · have := (hs.ref h2).1; rwa [show (ix + 2) * 2 = ix * 2 + 4 by omega] at this
    · have := (hs.ref h2).2; rwa [show (ix + 2) * 2 + 1 = ix * 2 + 5 by omega] at this
  · intro v hv
    simp [refsL] at hv
    rcases hv with rfl | rfl | rfl | rfl | rfl | rfl <;> rfl
theorem left_at {w : World} {t sb sg kb km iu k b g wc : Nat} {P : List (Cel PNd)} {L : List (RefK × Wd)} {tk : Int} {s : SpotP} {r u0 : Int × Int} {pt : ByteArray} {ka kz kx : Kd} {pl di : Bool} (h : TreeP w t sb sg kb km P L tk) (hs : SpotAt w b g wc s) (h2 : 2 ≤ s.way.length) (hrl : s.way[s.way.length - 1]? = some r) (hul : s.way[s.way.length - 1 - 1]? = some u0)
    (hqu : LiveP P u0.1 u0.2 iu ⟨.inner k pt [ka, kz], pl, di⟩) (hx : ((ka.s = r.1 ∧ ka.g = r.2) ∧ kx = kz) ∨ (¬ (ka.s = r.1 ∧ ka.g = r.2) ∧ kx = ka)) : Calls Tryz.prog 86 #[.pointer (some ⟨t, 0, none⟩), .pointer (some ⟨b, 0, none⟩)] w fun e w' => e = .returned (.agg #[.int .i64 kx.s, .int .u32 kx.g]) ∧ Below w.heap.size w w' := by
  rcases hx with ⟨⟨h1, h3⟩, rfl⟩ | ⟨hn, rfl⟩
  · exact left_0 w h hs h2 hrl hul hqu (by simp [h1]) (by simp [h3])
  · by_cases h1 : kx.s = r.1
    · exact left_2 w h hs h2 hrl hul hqu (by simp [h1]) (beq_false_of_ne fun e => hn ⟨h1, e⟩)
    · exact left_1 w h hs h2 hrl hul hqu (beq_false_of_ne h1)
set_option maxRecDepth 20000 in
set_option maxHeartbeats 4000000 in
theorem goes_two {t sb sg kb km iu iz k b g wc : Nat} {P : List (Cel PNd)} {L : List (RefK × Wd)} {tk : Int} {pt cz vz : ByteArray} {s : SpotP} {r u0 v0 : Int × Int} {ka kz kx : Kd} {di plz diz : Bool} (w : World) (h : TreeP w t sb sg kb km P L tk)
    (hs : SpotAt w b g wc s) (hw : s.way.length ≤ wc) (hrl : s.way[s.way.length - 1]? = some r) (h3 : 3 ≤ s.way.length) (hul : s.way[s.way.length - 1 - 1]? = some u0) (hvl : s.way[s.way.length - 3]? = some v0) (hqu : LiveP P u0.1 u0.2 iu ⟨.inner k pt [ka, kz], false, di⟩) (hx : ((ka.s = r.1 ∧ ka.g = r.2) ∧ kx = kz) ∨ (¬ (ka.s = r.1 ∧ ka.g = r.2) ∧ kx = ka)) (hqz : LiveP P kx.s kx.g iz ⟨.leaf cz vz, plz, diz⟩) :
    Calls Tryz.prog 45 #[.pointer (some ⟨t, 0, none⟩), .pointer (some ⟨b, 0, none⟩)] w fun e w' => ∃ g1 c1 a1, e = .returned (.agg #[.slice (some ⟨g1, 0, none⟩) 3 c1, .slice (some ⟨a1, 0, none⟩) 2 2, .int .i64 0]) ∧ w'.ownsRow w.heap.size 30 2 (.slice (some ⟨g1, 0, none⟩) 3 c1) 3 (refsL [v0, u0, r]) ∧ w'.heap[a1]? = some (.cells #[.int .i64 r.1, .int .u32 r.2, .int .i64 u0.1, .int .u32 u0.2] 30 (0, 0)) ∧ w.heap.size ≤ a1 ∧ Below w.heap.size w w' := by
  have h2 : 2 ≤ s.way.length := by omega
  have hr3 : s.way[s.way.length - 3]? = some v0 ∧ s.way[s.way.length - 3 + 1]? = some u0 ∧ s.way[s.way.length - 3 + 2]? = some r := ⟨hvl, by rw [← hul]; congr 1; omega, by rw [← hrl]; congr 1; omega⟩
  have HR3 := hid hr3
  have HH := hid h
  have HRU := hid (And.intro hrl hul)
  have HQU := hid hqu
  have HQZ := hid hqz
  have HKX := hid hx
  clear hr3 hqz hx hvl
  obtain ⟨Lk, hLk⟩ : ∃ Lk, Lk = [ka, kz] := ⟨_, rfl⟩
  rw [← hLk] at hqu
  have d2 : decide (((Lk.length : Nat) : Int) > 2) = false := by subst hLk; simp
  clear hLk
  obtain ⟨pl, hpl⟩ : ∃ pl, pl = false := ⟨_, rfl⟩
  have hB : Below w.heap.size w (w.alloc (.cells #[.slice none 0 0, .slice none 0 0, .int .i64 0] 47 (0, 0))) := (Below.refl _ _).alloc (Nat.le_refl _) _
  have hbl0 := lt_of_block hs.h
  have h0 := heap_new w (.cells #[.slice none 0 0, .slice none 0 0, .int .i64 0] 47 (0, 0))
  have hm := hs.m
  have hn := hs.n
  have hgl0 := hs.glt
  have HUP := hid (fun w1 (hs1 : SpotAt w1 b g wc s) => up_at (k := 0) hs1 hn (by simpa using hrl))
  have HU1 := hid (fun w1 (hs1 : SpotAt w1 b g wc s) => up_at (k := 1) hs1 (by omega) hul)
  clear hrl hul
  have e1 : ((s.way.length : Nat) : Int) - 3 = ((s.way.length - 3 : Nat) : Int) := by omega
  have hix : s.way.length - 3 ≤ s.way.length := by omega
  have hl : s.way.length - (s.way.length - 3) = 3 := by omega
  try unfold lastV
  generalize s.way.length - 3 = ix at *
  have HSP := hid (hs.keep hB)
  have hb0 := hs.keep hB
  obtain ⟨l, ya, yc, za, zc, hTA, hRE, hLx, hNI, hMI⟩ := h.inner hqu
  have HT := hid (hTA.keep hB)
  have HL := hid hLx
  generalize hW : w.alloc (.cells #[.slice none 0 0, .slice none 0 0, .int .i64 0] 47 (0, 0)) = W at *
  generalize hu : w.heap.size = u at *
  have HB := hid hb0.h
  have H0 := hid h0
  have HW := hid hW
  have HU := hid hu
  have HBL := hid hB
  have hbl : b < W.heap.size := lt_of_block HB.out
  have hul0 : u < W.heap.size := lt_of_block H0.out
  clear h hqu hs hb0 h0 hW hu hB hTA hRE hLx hNI hMI
  go_enter Tryz.func45, Tryz.ntmps45
  go_wp2_with fail
  rw [HW.out, HU.out]
  have HOK := hid (NJOk.calm (W0 := W) (T := 53) (z := #[.int .i64 0, .string ⟨#[]⟩, .string ⟨#[]⟩, .string ⟨#[]⟩, .slice none 0 0, .slice none 0 0]) (o := #[.int .i64 k, .string ⟨#[]⟩, .string ⟨#[]⟩, .string pt, .slice ya Lk.length yc, .slice za Lk.length zc]) (dl := fun _ => []))
  refine wp_region_val 8 (NJ (fun _ => False) (fun _ => True) (fun _ => True) (fun _ _ _ => True) W 53 #[.int .i64 0, .string ⟨#[]⟩, .string ⟨#[]⟩, .string ⟨#[]⟩, .slice none 0 0, .slice none 0 0] (fun _ => #[.int .i64 k, .string ⟨#[]⟩, .string ⟨#[]⟩, .string pt, .slice ya Lk.length yc, .slice za Lk.length zc]) [] [] 99 6 7 [0, 1, 2, 3, 4, 5] [] (fun _ => []) (fun j => ([.pointer (some ⟨t, 0, none⟩), .pointer (some ⟨t, 0, none⟩), .pointer (some ⟨t, 0, none⟩), .pointer (some ⟨b, 0, none⟩), .agg #[.int .i64 u0.1, .int .u32 u0.2], .agg #[.int .i64 k, .string ⟨#[]⟩, .string ⟨#[]⟩, .string pt, .slice ya Lk.length yc, .slice za Lk.length zc]] : List Value)[j]?.getD undef) (fun _ _ => undef)) (by kernel_rfl) (by kernel_rfl) (by kernel_rfl) ?h0 ?hs ?hend
  case h0 => exact NJ.start trivial
  case hs =>
    dsimp only [List.take, AllOpsI, dsts, fill]
    refine ⟨?_, ?_, ?_, ?_, ?_, ?_, ?_, ?_⟩
    · intro D xs w1 hDk hwt hJ
      have HJ := hid hJ
      have HWT := hid hwt
      have HD := hid hDk
      clear hDk hwt hJ
      go_wp2_with (fail)
      first | exact ⟨.pointer (some ⟨t, 0, none⟩), by kernel_rfl, fun q hq => by obtain rfl := hq rfl; exact NJ.calm HOK.out HJ.out HD.out (by decide) (by decide) (by decide) (by decide) (by decide) (by decide) (fun _ => rfl) (Below.refl _ _)⟩ | exact ⟨.pointer (some ⟨t, 0, none⟩), by kernel_rfl, NJ.calm HOK.out HJ.out HD.out (by decide) (by decide) (by decide) (by decide) (by decide) (by decide) (fun _ => rfl) (Below.refl _ _)⟩
    · intro D xs w1 hDk hwt hJ
      have ee : xs 0 = .pointer (some ⟨t, 0, none⟩) := hJ.v 0 (hwt 0 (List.mem_of_elem_eq_true (by kernel_rfl))) (by decide)
      rw [ee]
      clear ee
      have HJ := hid hJ
      have HWT := hid hwt
      have HD := hid hDk
      clear hDk hwt hJ
      go_wp2_with (fail)
      first | exact ⟨.pointer (some ⟨t, 0, none⟩), by kernel_rfl, fun q hq => by obtain rfl := hq rfl; exact NJ.calm HOK.out HJ.out HD.out (by decide) (by decide) (by decide) (by decide) (by decide) (by decide) (fun _ => rfl) (Below.refl _ _)⟩ | exact ⟨.pointer (some ⟨t, 0, none⟩), by kernel_rfl, NJ.calm HOK.out HJ.out HD.out (by decide) (by decide) (by decide) (by decide) (by decide) (by decide) (fun _ => rfl) (Below.refl _ _)⟩
    · intro D xs w1 hDk hwt hJ
      have ee : xs 1 = .pointer (some ⟨t, 0, none⟩) := hJ.v 1 (hwt 1 (List.mem_of_elem_eq_true (by kernel_rfl))) (by decide)
      rw [ee]
      clear ee
      have HJ := hid hJ
      have HWT := hid hwt
      have HD := hid hDk
      clear hDk hwt hJ
      go_wp2_with (fail)
      first | exact ⟨.pointer (some ⟨t, 0, none⟩), by kernel_rfl, fun q hq => by obtain rfl := hq rfl; exact NJ.calm HOK.out HJ.out HD.out (by decide) (by decide) (by decide) (by decide) (by decide) (by decide) (fun _ => rfl) (Below.refl _ _)⟩ | exact ⟨.pointer (some ⟨t, 0, none⟩), by kernel_rfl, NJ.calm HOK.out HJ.out HD.out (by decide) (by decide) (by decide) (by decide) (by decide) (by decide) (fun _ => rfl) (Below.refl _ _)⟩
    · intro D xs w1 hDk hwt hJ
      have HJ := hid hJ
      have HWT := hid hwt
      have HD := hid hDk
      clear hDk hwt hJ
      go_wp2_with (fail)
      first | exact ⟨.pointer (some ⟨b, 0, none⟩), by kernel_rfl, fun q hq => by obtain rfl := hq rfl; exact NJ.calm HOK.out HJ.out HD.out (by decide) (by decide) (by decide) (by decide) (by decide) (by decide) (fun _ => rfl) (Below.refl _ _)⟩ | exact ⟨.pointer (some ⟨b, 0, none⟩), by kernel_rfl, NJ.calm HOK.out HJ.out HD.out (by decide) (by decide) (by decide) (by decide) (by decide) (by decide) (fun _ => rfl) (Below.refl _ _)⟩
    · intro D xs w1 hDk hwt hJ
      have ee : xs 3 = .pointer (some ⟨b, 0, none⟩) := hJ.v 3 (hwt 3 (List.mem_of_elem_eq_true (by kernel_rfl))) (by decide)
      rw [ee]
      clear ee
      have HUW := hid (HU1.out w1 (HSP.out.keep (hJ.m.below (Nat.le_refl _) (fun _ _ e => e))))
      have HJ := hid hJ
      have HWT := hid hwt
      have HD := hid hDk
      clear hDk hwt hJ
      go_wp2_with (go_at_call 37; refine HUW.out.mono ?_; rintro e w2 ⟨rfl, hb2⟩)
      first | exact ⟨.agg #[.int .i64 u0.1, .int .u32 u0.2], by kernel_rfl, fun q hq => by obtain rfl := hq rfl; exact NJ.calm HOK.out HJ.out HD.out (by decide) (by decide) (by decide) (by decide) (by decide) (by decide) (fun _ => rfl) (hb2)⟩ | exact ⟨.agg #[.int .i64 u0.1, .int .u32 u0.2], by kernel_rfl, NJ.calm HOK.out HJ.out HD.out (by decide) (by decide) (by decide) (by decide) (by decide) (by decide) (fun _ => rfl) (hb2)⟩
    · intro D xs w1 hDk hwt hJ
      have ee : xs 2 = .pointer (some ⟨t, 0, none⟩) := hJ.v 2 (hwt 2 (List.mem_of_elem_eq_true (by kernel_rfl))) (by decide)
      rw [ee]
      clear ee
      have ee : xs 4 = .agg #[.int .i64 u0.1, .int .u32 u0.2] := hJ.v 4 (hwt 4 (List.mem_of_elem_eq_true (by kernel_rfl))) (by decide)
      rw [ee]
      clear ee
      have HND := hid (node_at u0.1 u0.2 w1 (HT.out.keep (hJ.m.below (Nat.le_refl _) (fun _ _ e => e))) HL.out)
      have HJ := hid hJ
      have HWT := hid hwt
      have HD := hid hDk
      clear hDk hwt hJ
      go_wp2_with (go_at_call 38; refine HND.out.mono ?_; rintro e w2 ⟨rfl, hb2⟩)
      first | exact ⟨.agg #[.int .i64 k, .string ⟨#[]⟩, .string ⟨#[]⟩, .string pt, .slice ya Lk.length yc, .slice za Lk.length zc], by kernel_rfl, fun q hq => by obtain rfl := hq rfl; exact NJ.calm HOK.out HJ.out HD.out (by decide) (by decide) (by decide) (by decide) (by decide) (by decide) (fun _ => rfl) (hb2)⟩ | exact ⟨.agg #[.int .i64 k, .string ⟨#[]⟩, .string ⟨#[]⟩, .string pt, .slice ya Lk.length yc, .slice za Lk.length zc], by kernel_rfl, NJ.calm HOK.out HJ.out HD.out (by decide) (by decide) (by decide) (by decide) (by decide) (by decide) (fun _ => rfl) (hb2)⟩
    · intro D xs w1 hDk hwt hJ
      have HJ := hid hJ
      have HWT := hid hwt
      have HD := hid hDk
      clear hDk hwt hJ
      go_wp2_with fail
      first | exact ⟨.pointer (some ⟨w1.heap.size, 0, none⟩), by kernel_rfl, fun q hq => by obtain rfl := hq rfl; exact NJ.alloc HOK.out HJ.out HD.out (by decide) (by decide) (by decide) (by decide) (by decide)⟩ | exact ⟨.pointer (some ⟨w1.heap.size, 0, none⟩), by kernel_rfl, NJ.alloc HOK.out HJ.out HD.out (by decide) (by decide) (by decide) (by decide) (by decide)⟩
    · intro D xs w1 hDk hwt hJ
      have hA := hwt 6 (List.mem_of_elem_eq_true (by kernel_rfl))
      obtain ⟨b0, hb0, eb0, hc0⟩ := hJ.a hA
      rw [eb0]
      have HEB := hid eb0
      clear eb0
      rw [show D 7 = false from hDk] at hc0
      simp only [cond_false] at hc0
      have ee : xs 5 = .agg #[.int .i64 k, .string ⟨#[]⟩, .string ⟨#[]⟩, .string pt, .slice ya Lk.length yc, .slice za Lk.length zc] := hJ.v 5 (hwt 5 (List.mem_of_elem_eq_true (by kernel_rfl))) (by decide)
      rw [ee]
      clear ee
      have q0 := cell_of hc0 0
      have q1 := cell_of hc0 1
      have q2 := cell_of hc0 2
      have q3 := cell_of hc0 3
      have q4 := cell_of hc0 4
      have q5 := cell_of hc0 5
      have qf := free_of hc0
      have HC := hid hc0
      clear hc0
      have HJ := hid hJ
      have HWT := hid hwt
      have HD := hid hDk
      clear hDk hwt hJ
      go_wp2_with fail
      obtain ⟨m1, m2⟩ := (set6_mod (.int .i64 k) (.string ⟨#[]⟩) (.string ⟨#[]⟩) (.string pt) (.slice ya Lk.length yc) (.slice za Lk.length zc) HC.out)
      first | exact ⟨undef, by kernel_rfl, fun q _ => NJ.store HOK.out HJ.out HD.out (by decide) (by decide) (by decide) (by decide) (by decide) hA ((fun k h => by simp at h)) HEB.out m2 m1⟩ | exact ⟨by kernel_rfl, fun q => NJ.store HOK.out HJ.out HD.out (by decide) (by decide) (by decide) (by decide) (by decide) hA ((fun k h => by simp at h)) HEB.out m2 m1⟩
  case hend =>
    intro D xs w3 hD hJ
    obtain ⟨v, hv, ev, hc⟩ := hJ.a (hD 6 (by omega))
    rw [hD 7 (by omega)] at hc
    simp only [cond_true] at hc
    have HB3 := hid (hJ.m.below (Nat.le_refl _) (fun _ _ e => e))
    have HV := hid hc
    have HVL := hid hv
    dsimp only [List.take, dsts, fill, List.drop]
    rw [ev]
    clear hD hJ ev hc hv HOK
    have HPD := hid (fun w1 (hb : Below w3.heap.size w3 w1) => planted_at u0.1 u0.2 w1 (HT.out.keep (HB3.out.trans (hb.mono HB3.out.size))) HL.out)
    have HSP3 := hid (HSP.out.keep HB3.out)
    go_wp2_with fail
    refine wp_region_seq 12 (fun w1 => Below (w3).heap.size (w3) w1) (by kernel_rfl) (by kernel_rfl) (by kernel_rfl) ⟨rfl, rfl, rfl, Nat.le_refl _, fun _ _ => rfl⟩ ?_
    dsimp only [List.take]
    iterate 12
      refine Seq.cons (a' := ?_) ?_ ?_ ?_
      rotate_left
      ·
        intro w1 hw1
        have o5 := cell_of ((hw1.block v (lt_of_block HV.out)).trans HV.out) 5
        go_wp2_with (first | (go_at_call 37; refine (HU1.out _ (HSP3.out.keep hw1)).mono ?_; rintro e w' ⟨rfl, hb⟩) | (go_at_call 42; refine (HPD.out _ hw1).mono ?_; rintro e w' ⟨rfl, hb⟩))
        refine ⟨?_, by first | assumption | (simpa using below_chain hw1 hb hw1.size)⟩
        exact rfl
      · kernel_rfl
    refine SeqI.nil ?_
    intro _ w1 _ hw1
    dsimp only [List.drop]
    obtain ⟨w5, hw5⟩ : ∃ w5, w5 = w1 := ⟨_, rfl⟩
    subst hw5
    have hw3 := HB3.out
    have hb13 := hw3.trans (hw1.mono hw3.size)
    have H05 := hid ((hb13.block _ (lt_of_block H0.out)).trans H0.out)
    have HSP5 := hid (HSP.out.keep hb13)
    have HBL5 := hid (HBL.out.trans (hb13.mono (by have := HBL.out.size; have := HU.out; omega)))
    clear hb13 hw3 hw1
    go_wp2_with fail
    have hok : NJOk (fun _ => False) (fun _ => True) (fun _ => True) (fun (j : Nat) (w : World) (v : Value) => if j = 11 then ∃ g' cap, v = .slice (some ⟨g', 0, none⟩) 3 cap ∧ w.ownsRow w5.heap.size 30 2 (.slice (some ⟨g', 0, none⟩) 3 cap) 3 (refsL [v0, u0, r]) else ∃ a, v = .slice (some ⟨a, 0, none⟩) 2 2 ∧ w5.heap.size ≤ a ∧ w.heap[a]? = some (.cells #[.int .i64 r.1, .int .u32 r.2, .int .i64 u0.1, .int .u32 u0.2] 30 (0, 0))) w5 47 #[.slice none 0 0, .slice none 0 0, .int .i64 0] (fun xs => #[xs 11, xs 16, .int .i64 0]) [11, 16] (fun _ => [11, 16]) (fun _ xs => .agg #[xs 11, xs 16, .int .i64 0]) := by
      have kF : ∀ j w w' v, (fun (j : Nat) (w : World) (v : Value) => if j = 11 then ∃ g' cap, v = .slice (some ⟨g', 0, none⟩) 3 cap ∧ w.ownsRow w5.heap.size 30 2 (.slice (some ⟨g', 0, none⟩) 3 cap) 3 (refsL [v0, u0, r]) else ∃ a, v = .slice (some ⟨a, 0, none⟩) 2 2 ∧ w5.heap.size ≤ a ∧ w.heap[a]? = some (.cells #[.int .i64 r.1, .int .u32 r.2, .int .i64 u0.1, .int .u32 u0.2] 30 (0, 0))) j w v → Mod (fun _ => False) w w' → (fun (j : Nat) (w : World) (v : Value) => if j = 11 then ∃ g' cap, v = .slice (some ⟨g', 0, none⟩) 3 cap ∧ w.ownsRow w5.heap.size 30 2 (.slice (some ⟨g', 0, none⟩) 3 cap) 3 (refsL [v0, u0, r]) else ∃ a, v = .slice (some ⟨a, 0, none⟩) 2 2 ∧ w5.heap.size ≤ a ∧ w.heap[a]? = some (.cells #[.int .i64 r.1, .int .u32 r.2, .int .i64 u0.1, .int .u32 u0.2] 30 (0, 0))) j w' v := by
        intro j w w' v h hM
        try simp only at h ⊢
        split at h
        · rename_i e; rw [if_pos e]; obtain ⟨g', cap, e1, h1⟩ := h; exact ⟨g', cap, e1, O.own_mod h1 hM (fun _ _ e => e)⟩
        · rename_i e; rw [if_neg e]; obtain ⟨a, e1, h1, h2⟩ := h; exact ⟨a, e1, h1, (hM.block a (lt_of_block h2) (fun e => e)).trans h2⟩
      refine ⟨fun _ _ _ _ => trivial, fun _ _ _ _ => trivial, fun j w w' v h hb => kF j w w' v h (mod_below hb), fun _ _ _ _ _ _ _ => trivial, fun _ _ _ _ _ _ _ => trivial, ?_, fun j w w' v hM h => kF j w w' v h hM, fun _ h => h.elim, fun xs ys h => by simp only [h 11 (by simp), h 16 (by simp)], fun j xs ys h => by simp only [h 11 (by simp), h 16 (by simp)]⟩
      intro j w w' u' v hu hc hM h
      try simp only at h ⊢
      split at h
      · rename_i e; rw [if_pos e]; obtain ⟨g', cap, e1, h1⟩ := h; exact ⟨g', cap, e1, O.own_mod h1 hM (O.own_off h1 hc (by decide))⟩
      · rename_i e; rw [if_neg e]; obtain ⟨a, e1, h1, h2⟩ := h; exact ⟨a, e1, h1, (hM.block a (lt_of_block h2) (fun e2 => by have e3 : a = u' := e2; subst e3; rw [h2] at hc; cases hc)).trans h2⟩
    have HOK := hid hok
    clear hok
    refine wp_region_val 20 (NJ (fun _ => False) (fun _ => True) (fun _ => True) (fun (j : Nat) (w : World) (v : Value) => if j = 11 then ∃ g' cap, v = .slice (some ⟨g', 0, none⟩) 3 cap ∧ w.ownsRow w5.heap.size 30 2 (.slice (some ⟨g', 0, none⟩) 3 cap) 3 (refsL [v0, u0, r]) else ∃ a, v = .slice (some ⟨a, 0, none⟩) 2 2 ∧ w5.heap.size ≤ a ∧ w.heap[a]? = some (.cells #[.int .i64 r.1, .int .u32 r.2, .int .i64 u0.1, .int .u32 u0.2] 30 (0, 0))) w5 47 #[.slice none 0 0, .slice none 0 0, .int .i64 0] (fun xs => #[xs 11, xs 16, .int .i64 0]) [11, 16] [11, 16] 99 18 19 [0, 1, 2, 3, 4, 5, 6, 7, 8, 9, 10, 12, 13, 14, 15] [17] (fun _ => [11, 16]) (fun j' => ([.pointer (some ⟨b, 0, none⟩), .pointer (some ⟨b, 0, none⟩), .pointer (some ⟨b, 1, none⟩), (.slice (some ⟨g, 0, none⟩) s.way.length wc), .pointer (some ⟨b, 0, none⟩), .pointer (some ⟨b, 0, none⟩), .pointer (some ⟨b, 1, none⟩), (.slice (some ⟨g, 0, none⟩) s.way.length wc), .int .i64 s.way.length, .int .i64 ix, (.slice (some ⟨g, ix * 2, none⟩) 3 (wc - ix)), undef, .pointer (some ⟨b, 0, none⟩), .agg #[.int .i64 r.1, .int .u32 r.2], .pointer (some ⟨b, 0, none⟩), .agg #[.int .i64 u0.1, .int .u32 u0.2], undef, undef, undef, undef] : List Value)[j']?.getD undef) (fun _ xs => .agg #[xs 11, xs 16, .int .i64 0])) (by kernel_rfl) (by kernel_rfl) (by kernel_rfl) ?h0 ?hs ?hend
    case h0 => exact NJ.start trivial
    case hs =>
      dsimp only [List.take, AllOpsI, dsts, fill]
      refine ⟨?_, ?_, ?_, ?_, ?_, ?_, ?_, ?_, ?_, ?_, ?_, ?_, ?_, ?_, ?_, ?_, ?_, ?_, ?_, ?_⟩
      · intro D xs w1 hDk hwt hJ
        have HJ := hid hJ
        have HWT := hid hwt
        have HD := hid hDk
        clear hDk hwt hJ
        go_wp2_with (fail)
        first | exact ⟨.pointer (some ⟨b, 0, none⟩), by kernel_rfl, fun q hq => by obtain rfl := hq rfl; exact NJ.calm HOK.out HJ.out HD.out (by decide) (by decide) (by decide) (by decide) (by decide) (by decide) (fun _ => rfl) (Below.refl _ _)⟩ | exact ⟨.pointer (some ⟨b, 0, none⟩), by kernel_rfl, NJ.calm HOK.out HJ.out HD.out (by decide) (by decide) (by decide) (by decide) (by decide) (by decide) (fun _ => rfl) (Below.refl _ _)⟩
      · intro D xs w1 hDk hwt hJ
        have ee : xs 0 = .pointer (some ⟨b, 0, none⟩) := hJ.v 0 (hwt 0 (List.mem_of_elem_eq_true (by kernel_rfl))) (by decide)
        rw [ee]
        clear ee
        have HJ := hid hJ
        have HWT := hid hwt
        have HD := hid hDk
        clear hDk hwt hJ
        go_wp2_with (fail)
        first | exact ⟨.pointer (some ⟨b, 0, none⟩), by kernel_rfl, fun q hq => by obtain rfl := hq rfl; exact NJ.calm HOK.out HJ.out HD.out (by decide) (by decide) (by decide) (by decide) (by decide) (by decide) (fun _ => rfl) (Below.refl _ _)⟩ | exact ⟨.pointer (some ⟨b, 0, none⟩), by kernel_rfl, NJ.calm HOK.out HJ.out HD.out (by decide) (by decide) (by decide) (by decide) (by decide) (by decide) (fun _ => rfl) (Below.refl _ _)⟩
      · intro D xs w1 hDk hwt hJ
        have ee : xs 1 = .pointer (some ⟨b, 0, none⟩) := hJ.v 1 (hwt 1 (List.mem_of_elem_eq_true (by kernel_rfl))) (by decide)
        rw [ee]
        clear ee
        have HJ := hid hJ
        have HWT := hid hwt
        have HD := hid hDk
        clear hDk hwt hJ
        go_wp2_with (fail)
        first | exact ⟨.pointer (some ⟨b, 1, none⟩), by kernel_rfl, fun q hq => by obtain rfl := hq rfl; exact NJ.calm HOK.out HJ.out HD.out (by decide) (by decide) (by decide) (by decide) (by decide) (by decide) (fun _ => rfl) (Below.refl _ _)⟩ | exact ⟨.pointer (some ⟨b, 1, none⟩), by kernel_rfl, NJ.calm HOK.out HJ.out HD.out (by decide) (by decide) (by decide) (by decide) (by decide) (by decide) (fun _ => rfl) (Below.refl _ _)⟩
      · intro D xs w1 hDk hwt hJ
        have ee : xs 2 = .pointer (some ⟨b, 1, none⟩) := hJ.v 2 (hwt 2 (List.mem_of_elem_eq_true (by kernel_rfl))) (by decide)
        rw [ee]
        clear ee
        have q1 := cell_of (HSP5.out.keep (hJ.m.below (Nat.le_refl _) (fun _ _ e => e))).h 1
        have HJ := hid hJ
        have HWT := hid hwt
        have HD := hid hDk
        clear hDk hwt hJ
        go_wp2_with (fail)
        first | exact ⟨(.slice (some ⟨g, 0, none⟩) s.way.length wc), by kernel_rfl, fun q hq => by obtain rfl := hq rfl; exact NJ.calm HOK.out HJ.out HD.out (by decide) (by decide) (by decide) (by decide) (by decide) (by decide) (fun _ => rfl) (Below.refl _ _)⟩ | exact ⟨(.slice (some ⟨g, 0, none⟩) s.way.length wc), by kernel_rfl, NJ.calm HOK.out HJ.out HD.out (by decide) (by decide) (by decide) (by decide) (by decide) (by decide) (fun _ => rfl) (Below.refl _ _)⟩
      · intro D xs w1 hDk hwt hJ
        have HJ := hid hJ
        have HWT := hid hwt
        have HD := hid hDk
        clear hDk hwt hJ
        go_wp2_with (fail)
        first | exact ⟨.pointer (some ⟨b, 0, none⟩), by kernel_rfl, fun q hq => by obtain rfl := hq rfl; exact NJ.calm HOK.out HJ.out HD.out (by decide) (by decide) (by decide) (by decide) (by decide) (by decide) (fun _ => rfl) (Below.refl _ _)⟩ | exact ⟨.pointer (some ⟨b, 0, none⟩), by kernel_rfl, NJ.calm HOK.out HJ.out HD.out (by decide) (by decide) (by decide) (by decide) (by decide) (by decide) (fun _ => rfl) (Below.refl _ _)⟩
      · intro D xs w1 hDk hwt hJ
        have ee : xs 4 = .pointer (some ⟨b, 0, none⟩) := hJ.v 4 (hwt 4 (List.mem_of_elem_eq_true (by kernel_rfl))) (by decide)
        rw [ee]
        clear ee
        have HJ := hid hJ
        have HWT := hid hwt
        have HD := hid hDk
        clear hDk hwt hJ
        go_wp2_with (fail)
        first | exact ⟨.pointer (some ⟨b, 0, none⟩), by kernel_rfl, fun q hq => by obtain rfl := hq rfl; exact NJ.calm HOK.out HJ.out HD.out (by decide) (by decide) (by decide) (by decide) (by decide) (by decide) (fun _ => rfl) (Below.refl _ _)⟩ | exact ⟨.pointer (some ⟨b, 0, none⟩), by kernel_rfl, NJ.calm HOK.out HJ.out HD.out (by decide) (by decide) (by decide) (by decide) (by decide) (by decide) (fun _ => rfl) (Below.refl _ _)⟩
      · intro D xs w1 hDk hwt hJ
        have ee : xs 5 = .pointer (some ⟨b, 0, none⟩) := hJ.v 5 (hwt 5 (List.mem_of_elem_eq_true (by kernel_rfl))) (by decide)
        rw [ee]
        clear ee
        have HJ := hid hJ
        have HWT := hid hwt
        have HD := hid hDk
        clear hDk hwt hJ
        go_wp2_with (fail)
        first | exact ⟨.pointer (some ⟨b, 1, none⟩), by kernel_rfl, fun q hq => by obtain rfl := hq rfl; exact NJ.calm HOK.out HJ.out HD.out (by decide) (by decide) (by decide) (by decide) (by decide) (by decide) (fun _ => rfl) (Below.refl _ _)⟩ | exact ⟨.pointer (some ⟨b, 1, none⟩), by kernel_rfl, NJ.calm HOK.out HJ.out HD.out (by decide) (by decide) (by decide) (by decide) (by decide) (by decide) (fun _ => rfl) (Below.refl _ _)⟩
      · intro D xs w1 hDk hwt hJ
        have ee : xs 6 = .pointer (some ⟨b, 1, none⟩) := hJ.v 6 (hwt 6 (List.mem_of_elem_eq_true (by kernel_rfl))) (by decide)
        rw [ee]
        clear ee
        have q1 := cell_of (HSP5.out.keep (hJ.m.below (Nat.le_refl _) (fun _ _ e => e))).h 1
        have HJ := hid hJ
        have HWT := hid hwt
        have HD := hid hDk
        clear hDk hwt hJ
        go_wp2_with (fail)
        first | exact ⟨(.slice (some ⟨g, 0, none⟩) s.way.length wc), by kernel_rfl, fun q hq => by obtain rfl := hq rfl; exact NJ.calm HOK.out HJ.out HD.out (by decide) (by decide) (by decide) (by decide) (by decide) (by decide) (fun _ => rfl) (Below.refl _ _)⟩ | exact ⟨(.slice (some ⟨g, 0, none⟩) s.way.length wc), by kernel_rfl, NJ.calm HOK.out HJ.out HD.out (by decide) (by decide) (by decide) (by decide) (by decide) (by decide) (fun _ => rfl) (Below.refl _ _)⟩
      · intro D xs w1 hDk hwt hJ
        have ee : xs 7 = (.slice (some ⟨g, 0, none⟩) s.way.length wc) := hJ.v 7 (hwt 7 (List.mem_of_elem_eq_true (by kernel_rfl))) (by decide)
        rw [ee]
        clear ee
        have HJ := hid hJ
        have HWT := hid hwt
        have HD := hid hDk
        clear hDk hwt hJ
        go_wp2_with (fail)
        first | exact ⟨.int .i64 s.way.length, by kernel_rfl, fun q hq => by obtain rfl := hq rfl; exact NJ.calm HOK.out HJ.out HD.out (by decide) (by decide) (by decide) (by decide) (by decide) (by decide) (fun _ => rfl) (Below.refl _ _)⟩ | exact ⟨.int .i64 s.way.length, by kernel_rfl, NJ.calm HOK.out HJ.out HD.out (by decide) (by decide) (by decide) (by decide) (by decide) (by decide) (fun _ => rfl) (Below.refl _ _)⟩
      · intro D xs w1 hDk hwt hJ
        have ee : xs 8 = .int .i64 s.way.length := hJ.v 8 (hwt 8 (List.mem_of_elem_eq_true (by kernel_rfl))) (by decide)
        rw [ee]
        clear ee
        have HJ := hid hJ
        have HWT := hid hwt
        have HD := hid hDk
        clear hDk hwt hJ
        go_wp2_with (fail)
        first | exact ⟨.int .i64 ix, by kernel_rfl, fun q hq => by obtain rfl := hq rfl; exact NJ.calm HOK.out HJ.out HD.out (by decide) (by decide) (by decide) (by decide) (by decide) (by decide) (fun _ => rfl) (Below.refl _ _)⟩ | exact ⟨.int .i64 ix, by kernel_rfl, NJ.calm HOK.out HJ.out HD.out (by decide) (by decide) (by decide) (by decide) (by decide) (by decide) (fun _ => rfl) (Below.refl _ _)⟩
      · intro D xs w1 hDk hwt hJ
        have ee : xs 3 = (.slice (some ⟨g, 0, none⟩) s.way.length wc) := hJ.v 3 (hwt 3 (List.mem_of_elem_eq_true (by kernel_rfl))) (by decide)
        rw [ee]
        clear ee
        have ee : xs 9 = .int .i64 ix := hJ.v 9 (hwt 9 (List.mem_of_elem_eq_true (by kernel_rfl))) (by decide)
        rw [ee]
        clear ee
        have HJ := hid hJ
        have HWT := hid hwt
        have HD := hid hDk
        clear hDk hwt hJ
        go_wp2_with (fail)
        first | exact ⟨(.slice (some ⟨g, ix * 2, none⟩) 3 (wc - ix)), by kernel_rfl, fun q hq => by obtain rfl := hq rfl; exact NJ.calm HOK.out HJ.out HD.out (by decide) (by decide) (by decide) (by decide) (by decide) (by decide) (fun _ => rfl) (Below.refl _ _)⟩ | exact ⟨(.slice (some ⟨g, ix * 2, none⟩) 3 (wc - ix)), by kernel_rfl, NJ.calm HOK.out HJ.out HD.out (by decide) (by decide) (by decide) (by decide) (by decide) (by decide) (fun _ => rfl) (Below.refl _ _)⟩
      · intro D xs w1 hDk hwt hJ
        have ee : xs 10 = (.slice (some ⟨g, ix * 2, none⟩) 3 (wc - ix)) := hJ.v 10 (hwt 10 (List.mem_of_elem_eq_true (by kernel_rfl))) (by decide)
        rw [ee]
        clear ee
        have HCL := hid (clone3 w1 (HSP5.out.keep (hJ.m.below (Nat.le_refl _) (fun _ _ e => e))) HR3.out.1 HR3.out.2.1 HR3.out.2.2)
        have hsz := hJ.m.size
        have HJ := hid hJ
        have HWT := hid hwt
        have HD := hid hDk
        clear hDk hwt hJ
        go_wp2_with (go_at_call 50; refine HCL.out.mono ?_; rintro e w2 ⟨g1, c1, rfl, hown, hb2⟩)
        first | exact ⟨.slice (some ⟨g1, 0, none⟩) 3 c1, by kernel_rfl, fun q hq => by obtain rfl := hq rfl; exact NJ.call HOK.out HJ.out HD.out (by decide) (by decide) (by decide) (by decide) (by decide) (by decide) (⟨g1, c1, rfl, own_le hown (by omega)⟩) (hb2)⟩ | exact ⟨.slice (some ⟨g1, 0, none⟩) 3 c1, by kernel_rfl, NJ.call HOK.out HJ.out HD.out (by decide) (by decide) (by decide) (by decide) (by decide) (by decide) (⟨g1, c1, rfl, own_le hown (by omega)⟩) (hb2)⟩
      · intro D xs w1 hDk hwt hJ
        have HJ := hid hJ
        have HWT := hid hwt
        have HD := hid hDk
        clear hDk hwt hJ
        go_wp2_with (fail)
        first | exact ⟨.pointer (some ⟨b, 0, none⟩), by kernel_rfl, fun q hq => by obtain rfl := hq rfl; exact NJ.calm HOK.out HJ.out HD.out (by decide) (by decide) (by decide) (by decide) (by decide) (by decide) (fun _ => rfl) (Below.refl _ _)⟩ | exact ⟨.pointer (some ⟨b, 0, none⟩), by kernel_rfl, NJ.calm HOK.out HJ.out HD.out (by decide) (by decide) (by decide) (by decide) (by decide) (by decide) (fun _ => rfl) (Below.refl _ _)⟩
      · intro D xs w1 hDk hwt hJ
        have ee : xs 12 = .pointer (some ⟨b, 0, none⟩) := hJ.v 12 (hwt 12 (List.mem_of_elem_eq_true (by kernel_rfl))) (by decide)
        rw [ee]
        clear ee
        have HUW := hid (HUP.out w1 (HSP5.out.keep (hJ.m.below (Nat.le_refl _) (fun _ _ e => e))))
        have HJ := hid hJ
        have HWT := hid hwt
        have HD := hid hDk
        clear hDk hwt hJ
        go_wp2_with (go_at_call 37; refine HUW.out.mono ?_; rintro e w2 ⟨rfl, hb2⟩)
        first | exact ⟨.agg #[.int .i64 r.1, .int .u32 r.2], by kernel_rfl, fun q hq => by obtain rfl := hq rfl; exact NJ.calm HOK.out HJ.out HD.out (by decide) (by decide) (by decide) (by decide) (by decide) (by decide) (fun _ => rfl) (hb2)⟩ | exact ⟨.agg #[.int .i64 r.1, .int .u32 r.2], by kernel_rfl, NJ.calm HOK.out HJ.out HD.out (by decide) (by decide) (by decide) (by decide) (by decide) (by decide) (fun _ => rfl) (hb2)⟩
      · intro D xs w1 hDk hwt hJ
        have HJ := hid hJ
        have HWT := hid hwt
        have HD := hid hDk
        clear hDk hwt hJ
        go_wp2_with (fail)
        first | exact ⟨.pointer (some ⟨b, 0, none⟩), by kernel_rfl, fun q hq => by obtain rfl := hq rfl; exact NJ.calm HOK.out HJ.out HD.out (by decide) (by decide) (by decide) (by decide) (by decide) (by decide) (fun _ => rfl) (Below.refl _ _)⟩ | exact ⟨.pointer (some ⟨b, 0, none⟩), by kernel_rfl, NJ.calm HOK.out HJ.out HD.out (by decide) (by decide) (by decide) (by decide) (by decide) (by decide) (fun _ => rfl) (Below.refl _ _)⟩
      · intro D xs w1 hDk hwt hJ
        have ee : xs 14 = .pointer (some ⟨b, 0, none⟩) := hJ.v 14 (hwt 14 (List.mem_of_elem_eq_true (by kernel_rfl))) (by decide)
        rw [ee]
        clear ee
        have HUW := hid (HU1.out w1 (HSP5.out.keep (hJ.m.below (Nat.le_refl _) (fun _ _ e => e))))
        have HJ := hid hJ
        have HWT := hid hwt
        have HD := hid hDk
        clear hDk hwt hJ
        go_wp2_with (go_at_call 37; refine HUW.out.mono ?_; rintro e w2 ⟨rfl, hb2⟩)
        first | exact ⟨.agg #[.int .i64 u0.1, .int .u32 u0.2], by kernel_rfl, fun q hq => by obtain rfl := hq rfl; exact NJ.calm HOK.out HJ.out HD.out (by decide) (by decide) (by decide) (by decide) (by decide) (by decide) (fun _ => rfl) (hb2)⟩ | exact ⟨.agg #[.int .i64 u0.1, .int .u32 u0.2], by kernel_rfl, NJ.calm HOK.out HJ.out HD.out (by decide) (by decide) (by decide) (by decide) (by decide) (by decide) (fun _ => rfl) (hb2)⟩
      · intro D xs w1 hDk hwt hJ
        have ee : xs 13 = .agg #[.int .i64 r.1, .int .u32 r.2] := hJ.v 13 (hwt 13 (List.mem_of_elem_eq_true (by kernel_rfl))) (by decide)
        rw [ee]
        clear ee
        have ee : xs 15 = .agg #[.int .i64 u0.1, .int .u32 u0.2] := hJ.v 15 (hwt 15 (List.mem_of_elem_eq_true (by kernel_rfl))) (by decide)
        rw [ee]
        clear ee
        have hsz := hJ.m.size
        have hnb := heap_new w1 (.cells #[.int .i64 r.1, .int .u32 r.2, .int .i64 u0.1, .int .u32 u0.2] 30 (0, 0))
        have hbl1 : Below w1.heap.size w1 (w1.alloc (.cells #[.int .i64 r.1, .int .u32 r.2, .int .i64 u0.1, .int .u32 u0.2] 30 (0, 0))) := (Below.refl _ _).alloc (Nat.le_refl _) _
        have HJ := hid hJ
        have HWT := hid hwt
        have HD := hid hDk
        clear hDk hwt hJ
        go_wp2_with (fail)
        first | exact ⟨.slice (some ⟨w1.heap.size, 0, none⟩) 2 2, by kernel_rfl, fun q hq => by obtain rfl := hq rfl; exact NJ.call HOK.out HJ.out HD.out (by decide) (by decide) (by decide) (by decide) (by decide) (by decide) (⟨w1.heap.size, rfl, hsz, hnb⟩) (hbl1)⟩ | exact ⟨.slice (some ⟨w1.heap.size, 0, none⟩) 2 2, by kernel_rfl, NJ.call HOK.out HJ.out HD.out (by decide) (by decide) (by decide) (by decide) (by decide) (by decide) (⟨w1.heap.size, rfl, hsz, hnb⟩) (hbl1)⟩
      · intro D xs w1 hDk hwt hJ
        obtain ⟨g1, c1, e11, _⟩ := hJ.l 11 (by decide) (hwt 11 (List.mem_of_elem_eq_true (by kernel_rfl)))
        obtain ⟨a1, e16, _⟩ := hJ.l 16 (by decide) (hwt 16 (List.mem_of_elem_eq_true (by kernel_rfl)))
        rw [e11, e16]
        have H11 := hid (And.intro e11 e16)
        have hd17 : ∀ k, k ∈ ([11, 16] : List Nat) → D k = true := fun k hk => by simp at hk; rcases hk with rfl | rfl; exact hwt 11 (List.mem_of_elem_eq_true (by kernel_rfl)); exact hwt 16 (List.mem_of_elem_eq_true (by kernel_rfl))
        clear e11 e16
        have HJ := hid hJ
        have HWT := hid hwt
        have HD := hid hDk
        clear hDk hwt hJ
        go_wp2_with (fail)
        first | exact ⟨.agg #[.slice (some ⟨g1, 0, none⟩) 3 c1, .slice (some ⟨a1, 0, none⟩) 2 2, .int .i64 0], by kernel_rfl, fun q hq => by obtain rfl := hq rfl; exact NJ.dep HOK.out HJ.out HD.out (by decide) (by decide) (by decide) (by decide) (by decide) (by decide) (hd17) (by simp only [H11.out.1, H11.out.2]) (Below.refl _ _)⟩ | exact ⟨.agg #[.slice (some ⟨g1, 0, none⟩) 3 c1, .slice (some ⟨a1, 0, none⟩) 2 2, .int .i64 0], by kernel_rfl, NJ.dep HOK.out HJ.out HD.out (by decide) (by decide) (by decide) (by decide) (by decide) (by decide) (hd17) (by simp only [H11.out.1, H11.out.2]) (Below.refl _ _)⟩
      · intro D xs w1 hDk hwt hJ
        have HJ := hid hJ
        have HWT := hid hwt
        have HD := hid hDk
        clear hDk hwt hJ
        go_wp2_with fail
        first | exact ⟨.pointer (some ⟨w1.heap.size, 0, none⟩), by kernel_rfl, fun q hq => by obtain rfl := hq rfl; exact NJ.alloc HOK.out HJ.out HD.out (by decide) (by decide) (by decide) (by decide) (by decide)⟩ | exact ⟨.pointer (some ⟨w1.heap.size, 0, none⟩), by kernel_rfl, NJ.alloc HOK.out HJ.out HD.out (by decide) (by decide) (by decide) (by decide) (by decide)⟩
      · intro D xs w1 hDk hwt hJ
        have hA := hwt 18 (List.mem_of_elem_eq_true (by kernel_rfl))
        obtain ⟨b0, hb0, eb0, hc0⟩ := hJ.a hA
        rw [eb0]
        have HEB := hid eb0
        clear eb0
        rw [show D 19 = false from hDk] at hc0
        simp only [cond_false] at hc0
        have h17 := hwt 17 (List.mem_of_elem_eq_true (by kernel_rfl))
        obtain ⟨hd17, e17⟩ := hJ.e 17 h17 (by decide)
        obtain ⟨g1, c1, e11, _⟩ := hJ.l 11 (by decide) (hd17 11 (by simp))
        obtain ⟨a1, e16, _⟩ := hJ.l 16 (by decide) (hd17 16 (by simp))
        have e17 : xs 17 = .agg #[.slice (some ⟨g1, 0, none⟩) 3 c1, .slice (some ⟨a1, 0, none⟩) 2 2, .int .i64 0] := by rw [e17]; simp only [e11, e16]
        rw [e17]
        have H11 := hid (And.intro e11 e16)
        clear e11 e16 e17
        have q0 := cell_of hc0 0
        have q1 := cell_of hc0 1
        have q2 := cell_of hc0 2
        have qf := free_of hc0
        have HC := hid hc0
        clear hc0
        have HJ := hid hJ
        have HWT := hid hwt
        have HD := hid hDk
        clear hDk hwt hJ
        go_wp2_with fail
        obtain ⟨m1, m2⟩ := (show _ ∧ _ from ⟨(set3_at (.slice (some ⟨g1, 0, none⟩) 3 c1) (.slice (some ⟨a1, 0, none⟩) 2 2) (.int .i64 0) HC.out).1.trans (show some (Obj.cells #[.slice (some ⟨g1, 0, none⟩) 3 c1, .slice (some ⟨a1, 0, none⟩) 2 2, .int .i64 0] 47 (0, 0)) = some (Obj.cells #[xs 11, xs 16, .int .i64 0] 47 (0, 0)) by rw [H11.out.1, H11.out.2]), (set3_at (.slice (some ⟨g1, 0, none⟩) 3 c1) (.slice (some ⟨a1, 0, none⟩) 2 2) (.int .i64 0) HC.out).2⟩)
        first | exact ⟨undef, by kernel_rfl, fun q _ => NJ.store HOK.out HJ.out HD.out (by decide) (by decide) (by decide) (by decide) (by decide) hA (hd17) HEB.out m2 m1⟩ | exact ⟨by kernel_rfl, fun q => NJ.store HOK.out HJ.out HD.out (by decide) (by decide) (by decide) (by decide) (by decide) hA (hd17) HEB.out m2 m1⟩
    case hend =>
      intro D xs w6 hD hJ
      obtain ⟨v6, hv6, ev6, hc6⟩ := hJ.a (hD 18 (by omega))
      rw [hD 19 (by omega)] at hc6
      simp only [cond_true] at hc6
      obtain ⟨g1, c1, e11, how⟩ := hJ.l 11 (by decide) (hD 11 (by omega))
      obtain ⟨a1, e16, ha1, hr2⟩ := hJ.l 16 (by decide) (hD 16 (by omega))
      rw [e11, e16] at hc6
      have hb56 := hJ.m.below (Nat.le_refl _) (fun _ _ e => e)
      have HV6 := hid (And.intro hv6 hc6)
      have HOW := hid how
      have HR2 := hid (And.intro ha1 hr2)
      have HBL6 := hid (HBL5.out.trans (hb56.mono (by have := HBL5.out.size; have := HU.out; omega)))
      have H06 := hid ((hb56.block _ (lt_of_block H05.out)).trans H05.out)
      have HSP6 := hid (HSP5.out.keep hb56)
      have HTP6 := hid (HH.out.keep (HU.out ▸ HBL6.out))
      have HLF := hid (left_at HTP6.out HSP6.out h2 HRU.out.1 HRU.out.2 HQU.out HKX.out)
      dsimp only [List.take, dsts, fill, List.drop]
      rw [ev6]
      clear hD hJ ev6 hc6 hv6 HOK e11 e16 how ha1 hr2 hb56
      go_wp2_with (go_at_call 86; refine HLF.out.mono ?_; rintro e w7 ⟨rfl, hb7⟩; go_loud (have HB7 := hid hb7; have k7 := heap_new w7 (.cells #[.int .i64 kx.s, .int .u32 kx.g] 30 (0, 0)); have HK7 := hid k7; clear hb7 k7))
      have hb78 : Below w7.heap.size w7 (w7.alloc (.cells #[.int .i64 kx.s, .int .u32 kx.g] 30 (0, 0))) := (Below.refl _ _).alloc (Nat.le_refl _) _
      have hb68 := HB7.out.trans (hb78.mono HB7.out.size)
      generalize hW8 : w7.alloc (.cells #[.int .i64 kx.s, .int .u32 kx.g] 30 (0, 0)) = W8 at *
      generalize w7.heap.size = kb7 at *
      have HBL8 := hid (HBL6.out.trans (hb68.mono (by have := HBL6.out.size; have := HU.out; omega)))
      have H08 := hid ((hb68.block _ (lt_of_block H06.out)).trans H06.out)
      have HV8 := hid ((hb68.block _ (lt_of_block HV6.out.2)).trans HV6.out.2)
      have HTP8 := HH.out.keep (HU.out ▸ HBL8.out)
      obtain ⟨l2, hTA2, _, hL2⟩ := HTP8.leaf HQZ.out
      have HNZ := hid (fun w1 (hb : Below W8.heap.size W8 w1) => node_at kx.s kx.g w1 (hTA2.keep hb) hL2)
      clear hTA2 hL2
      have HOW8 := hid (O.own_mod HOW.out (mod_below (S := fun _ => False) hb68) (fun _ _ h => h))
      have HR8 := hid ((hb68.block _ (lt_of_block HR2.out.2)).trans HR2.out.2)
      have HA1 := hid HR2.out.1
      have HV6L := hid HV6.out.1
      clear hb78 hb68 hW8 HTP8 HOW HR2 HV6 HB7 HTP6 HLF HBL6 H06
      refine wp_region_seq 7 (fun w1 => Below (W8).heap.size (W8) w1) (by kernel_rfl) (by kernel_rfl) (by kernel_rfl) ⟨rfl, rfl, rfl, Nat.le_refl _, fun _ _ => rfl⟩ ?_
      dsimp only [List.take]
      iterate 5
        refine Seq.cons (a' := ?_) ?_ ?_ ?_
        rotate_left
        ·
          intro w1 hw1
          have n0 := cell_of ((hw1.block kb7 (lt_of_block HK7.out)).trans HK7.out) 0; have n1 := cell_of ((hw1.block kb7 (lt_of_block HK7.out)).trans HK7.out) 1
          go_wp2_with (go_at_call 38; refine (HNZ.out _ hw1).mono ?_; rintro e w' ⟨rfl, hb⟩)
          refine ⟨?_, by first | assumption | (simpa using below_chain hw1 hb hw1.size)⟩
          exact rfl
        · kernel_rfl
      refine Seq.cons (a' := ?_) ?_ ?_ ?_
      rotate_left
      ·
        intro w1 hw1
        have n0 := cell_of ((hw1.block kb7 (lt_of_block HK7.out)).trans HK7.out) 0; have n1 := cell_of ((hw1.block kb7 (lt_of_block HK7.out)).trans HK7.out) 1
        refine wpList_field_run rfl (.tmp 66) 53 0 rfl _ (.int .i64 1) rfl rfl ?_
        go_wp2_with fail
        refine ⟨?_, by first | assumption | (simpa using below_chain hw1 hb hw1.size)⟩
        exact rfl
      · kernel_rfl
      iterate 1
        refine Seq.cons (a' := ?_) ?_ ?_ ?_
        rotate_left
        ·
          intro w1 hw1
          have n0 := cell_of ((hw1.block kb7 (lt_of_block HK7.out)).trans HK7.out) 0; have n1 := cell_of ((hw1.block kb7 (lt_of_block HK7.out)).trans HK7.out) 1
          go_wp2_with (go_at_call 38; refine (HNZ.out _ hw1).mono ?_; rintro e w' ⟨rfl, hb⟩)
          refine ⟨?_, by first | assumption | (simpa using below_chain hw1 hb hw1.size)⟩
          exact rfl
        · kernel_rfl
      refine SeqI.nil ?_
      intro _ w1 _ hw1
      dsimp only [List.drop]
      have h09 := (hw1.block _ (lt_of_block H08.out)).trans H08.out
      have hv9 := (hw1.block _ (lt_of_block HV8.out)).trans HV8.out
      have q0 := cell_of h09 0
      have q1 := cell_of h09 1
      have q2 := cell_of h09 2
      have qf := free_of h09
      have p0 := cell_of hv9 0
      have p1 := cell_of hv9 1
      have p2 := cell_of hv9 2
      have HH9 := hid h09
      have HW9 := hid hw1
      clear h09 hv9 hw1
      go_wp2_with fail
      obtain ⟨m1, m2⟩ := set3_at (.slice (some ⟨g1, 0, none⟩) 3 c1) (.slice (some ⟨a1, 0, none⟩) 2 2) (.int .i64 0) HH9.out
      have r0 := cell_of m1 0
      have r1 := cell_of m1 1
      have r2 := cell_of m1 2
      have hbz := HBL8.out.size
      have hb9 := HW9.out
      refine bodyPost_ret (v := .agg #[.slice (some ⟨g1, 0, none⟩) 3 c1, .slice (some ⟨a1, 0, none⟩) 2 2, .int .i64 0]) (by simp [results, Tryz.results45, go_sem, r0, r1, r2]) rfl ⟨g1, c1, a1, rfl, ?_, ?_, ?_, ?_⟩
      · exact own_le (O.own_mod (O.own_mod HOW8.out (mod_below (S := fun _ => False) hb9) (fun _ _ h => h)) m2 (O.own_off (O.own_mod HOW8.out (mod_below (S := fun _ => False) hb9) (fun _ _ h => h)) HH9.out (by decide))) (by have := HBL5.out.size; have := HU.out; omega)
      · have hr9 := (hb9.block _ (lt_of_block HR8.out)).trans HR8.out
        exact (m2.block _ (lt_of_block hr9) (fun e => by have e2 : a1 = u := e; subst e2; have := HH9.out; rw [hr9] at this; cases this)).trans hr9
      · have := HA1.out; have := HBL5.out.size; have := HU.out; omega
      · exact below_mods (HBL8.out.trans (hb9.mono (by have := HU.out; omega))) m2 (by have := HU.out; omega) (by have := HU.out; have := lt_of_block H08.out; have := hb9.size; omega)
end Go.Proofs.YtnngicopphiaaaaGreatDoor.T
