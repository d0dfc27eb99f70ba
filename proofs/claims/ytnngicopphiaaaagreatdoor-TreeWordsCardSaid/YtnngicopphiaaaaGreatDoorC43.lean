/- Part 43 of 51 of a proof: lemmas on the functions that it reaches. -/
import Derived.Test.YtnngicopphiaaaaGreatDoorC42
import Derived.Test.YtnngicopphiaaaaGreatDoorC37
namespace Go.Proofs.YtnngicopphiaaaaGreatDoor.T
set_option maxRecDepth 8000
open Go.ChangeShapes Go.WideShapes Go.ChangeAt Go.RowKit Go.Burg
open Go.Burg.Lk
theorem LiveP.set_any {P : List (Cel PNd)} {s g s' g' : Int} {i i' : Nat} {q q' : PNd} (h : LiveP P s g i q) (h' : LiveP P s' g' i' q') (x : PNd) : ∃ j y, LiveP (P.set i' ⟨true, x, g'⟩) s g j y := by
  obtain ⟨e, p, h1, h2, h3, h4⟩ := h
  obtain ⟨e', p', h1', h2', h3', h4'⟩ := h'
  by_cases hi : i' = i
  · subst hi
    rw [h1] at h1'
    cases h1'
    exact ⟨i', x, e, _, List.getElem?_set_self (List.getElem?_eq_some_iff.1 h1).1, rfl, h3'.symm.trans h3, rfl⟩
  · exact ⟨i, q, e, p, by rw [List.getElem?_set_ne hi]; exact h1, h2, h3, h4⟩
theorem die_two {w : World} {t sb sg kb km a cap : Nat} {P : List (Cel PNd)} {L : List (RefK × Wd)} {tk : Int} {r u0 : Int × Int} (h : TreeP w t sb sg kb km P L tk) (h1 : ∃ i q, LiveP P r.1 r.2 i q) (h2 : ∃ i q, LiveP P u0.1 u0.2 i q) (hc : w.heap[a]? = some (.cells #[.int .i64 r.1, .int .u32 r.2, .int .i64 u0.1, .int .u32 u0.2] 30 (0, 0))) (hg : a ≠ sg) :
    Calls Tryz.prog 44 #[.pointer (some ⟨t, 0, none⟩), .slice (some ⟨a, 0, none⟩) 2 cap] w fun e w' => e = .returned (.slice (some ⟨a, 0, none⟩) 2 cap) ∧ TreeP w' t sb sg kb km (dieAll P [r, u0]) L tk ∧ Mod (· = sg) w w' := by
  refine die_at (W0 := [r, u0]) w h rfl (by omega) (fun x hx => ?_) (fun k x hx => ?_) (lt_of_block hc) hg
  · simp at hx
    rcases hx with rfl | rfl
    · exact h1
    · exact h2
  · have hk : k < 2 := (List.getElem?_eq_some_iff.1 hx).1
    rcases (by omega : k = 0 ∨ k = 1) with rfl | rfl <;> cases hx
    · exact ⟨cell_of hc 0, cell_of hc 1⟩
    · exact ⟨cell_of hc 2, cell_of hc 3⟩
set_option maxRecDepth 20000 in
set_option maxHeartbeats 8000000 in
theorem Drop_two {t sb sg kb km i iu iz iv jj jv k kv : Nat} {l : List (Cel Nd)} {P : List (Cel PNd)} {L : List (RefK × Wd)} {tk : Int} {slot gen : Int} {c pt cz vz ptv : ByteArray} {q : PNd} {s : SpotP} {r u0 v0 : Int × Int} {ka kz kk kx kkv : Kd} {Lv : List Kd} {di plz diz plv div_ : Bool} (w : World) (h : TreeAt w t sb sg kb km l L tk) (hR : Rel w l P) (hr : RoomsAt w) (hc : Coded c) (hq : LiveP P slot gen i q) (hp : q.planted = true) (hs : SeekW P c (slot, gen) 0 [] s) (hw : s.what = 1)
    (h3 : 3 ≤ s.way.length) (hrl : s.way[s.way.length - 1]? = some r) (hul : s.way[s.way.length - 1 - 1]? = some u0) (hvl : s.way[s.way.length - 1 - 2]? = some v0) (hqu : LiveP P u0.1 u0.2 iu ⟨.inner k pt [ka, kz], false, di⟩) (hkj : [ka, kz][jj]? = some kk) (hks : kk.s = r.1) (hkg : kk.g = r.2) (hkn : ∀ i k, i < jj → [ka, kz][i]? = some k → ¬ (k.s = r.1 ∧ k.g = r.2))
    (hkf : findK [ka, kz] kk.b = some kk) (hkx : otherK ka kz kk.b = kx) (hqz : LiveP P kx.s kx.g iz ⟨.leaf cz vz, plz, diz⟩) (hqv : LiveP P v0.1 v0.2 iv ⟨.inner kv ptv Lv, plv, div_⟩) (hkv : Lv[jv]? = some kkv) (hkvf : findK Lv kkv.b = some kkv) (hkvs : kkv.s = u0.1) (hkvg : kkv.g = u0.2) (hkvn : ∀ i k, i < jv → Lv[i]? = some k → ¬ (k.s = u0.1 ∧ k.g = u0.2)) (hok : (⟨kkv.b, kx.s, kx.g⟩ : Kd).ok) (hqr : ∃ i q, LiveP P r.1 r.2 i q) (h0 : ¬ (0 : Nat) = sg)
    (hpl : Calls Tryz.prog 17 #[.pointer (some ⟨t, 0, none⟩), .agg #[.int .i64 slot, .int .u32 gen], .string c, .bool false] (w.alloc (.cells #[.int .i64 slot, .int .u32 gen] 30 (0, 0))) fun e w' => ∃ la ln lc da dn dc, e = .returned (.tuple #[.agg #[.slice la ln lc, .slice da dn dc, .int .i64 0], .int .i64 0]) ∧ (∃ a c, (.slice da dn dc : Value) = .slice a 2 c) ∧ Below (w.alloc (.cells #[.int .i64 slot, .int .u32 gen] 30 (0, 0))).heap.size (w.alloc (.cells #[.int .i64 slot, .int .u32 gen] 30 (0, 0))) w') :
    Calls Tryz.prog 19 #[.pointer (some ⟨t, 0, none⟩), .agg #[.int .i64 slot, .int .u32 gen], .string c] w fun e w' => ∃ a, e = .returned (.tuple #[.slice (some ⟨a, 0, none⟩) 2 2, .int .i64 0]) ∧ w'.heap[a]? = some (.cells #[.int .i64 r.1, .int .u32 r.2, .int .i64 u0.1, .int .u32 u0.2] 30 (0, 0)) ∧ w.heap.size ≤ a ∧ TreeP w' t sb sg kb km (dieAll (P.set iv ⟨true, ⟨.inner kv ptv (turnK Lv kkv.b kx.s kx.g), plv, div_⟩, v0.2⟩) [r, u0]) L tk ∧ Mod (· = sg) w w' := by
  have HPL := hid hpl
  have HQU := hid hqu
  have HQZ := hid hqz
  have HKS := hid (And.intro hks hkg)
  obtain ⟨Lk, hLk⟩ : ∃ Lk, Lk = [ka, kz] := ⟨_, rfl⟩
  rw [← hLk] at HQU hkj hkn
  have HKJ := hid hkj
  have HKN := hid hkn
  have HKF := hid hkf
  rw [← hLk] at HKF
  have HLK := hid hLk
  have HKX := hid hkx
  have HV := hid (And.intro hqv (And.intro hkv (And.intro hkvf (And.intro hkvs (And.intro hkvg (And.intro hkvn hok))))))
  have HVL := hid hvl
  have HQR := hid hqr
  have H0 := hid h0
  clear hkf hpl hqu hqz hks hkg hkj hkn hLk hkx hqv hkv hkvf hkvs hkvg hkvn hok hvl hqr h0
  have b0 := heap_new w (.cells #[.int .i64 slot, .int .u32 gen] 30 (0, 0))
  have hB : Below w.heap.size w (w.alloc (.cells #[.int .i64 slot, .int .u32 gen] 30 (0, 0))) := (Below.refl _ _).alloc (Nat.le_refl _) _
  have HSKA := hid (fun w1 (hb : Below w.heap.size w w1) => Seek_at w1 (h.keep hb) (hR.keep hb) (hr.keep hb) hc hq hp hs)
  have HWH := hid hw
  have HS := hid hs
  have HRU := hid (And.intro hrl hul)
  have HWM : Hid (s.way.length ≤ 100) := hid (by have h1 := SeekW.way_le hs; have h2 := hc.size; simp only [List.length_nil] at h1; omega)
  have HK1 : Hid (1 < s.way.length) := hid (by omega)
  have HT := hid h
  have HR := hid hR
  have HRM := hid hr
  have HLT := hid (And.intro (lt_of_block h.ht) (And.intro h.hs.blt (And.intro h.hs.glt h.hk.lt)))
  clear h hR hr hc hq hp hs hw hrl hul
  go_enter Tryz.func19, Tryz.ntmps19
  go_wp2_with (first | (go_at_call 17; refine HPL.out.mono ?_; rintro e w2 ⟨la, ln, lc, da, dn, dc, rfl, ⟨xa, xc, hdn⟩, hb2⟩; go_loud (have hdn2 : dn = 2 := (by injection hdn); have HDN := hid hdn2; have h0 := (hb2.block _ (lt_of_block b0)).trans b0; have a0 := cell_of (blk_alloc (o' := (.cells #[.slice la ln lc, .slice da dn dc, .int .i64 0] 47 (0, 0))) h0) 0; have a1 := cell_of (blk_alloc (o' := (.cells #[.slice la ln lc, .slice da dn dc, .int .i64 0] 47 (0, 0))) h0) 1; have hc2 := heap_new w2 (.cells #[.slice la ln lc, .slice da dn dc, .int .i64 0] 47 (0, 0)); have hbc : Below w2.heap.size w2 (w2.alloc (.cells #[.slice la ln lc, .slice da dn dc, .int .i64 0] 47 (0, 0))) := (Below.refl _ _).alloc (Nat.le_refl _) _; have hbw2 := hB.trans (hb2.mono hB.size); have hbw3 := hbw2.trans (hbc.mono hbw2.size); have HC2 := hid hc2; have HSK := hid (HSKA.out _ hbw3); have HB2 := hid hbw3; have hv0 : w.heap.size ≤ w2.heap.size := hbw2.size; have HV0 := hid hv0; clear h0 hc2 hbc hbw2 hbw3 hb2 hdn hdn2 hv0)) | (go_at_call 36; refine HSK.out.mono ?_; rintro e w4 ⟨wa, wc4, rfl, how, hb4⟩; rw [HWH.out]; go_loud (obtain ⟨g4, rfl, lg, _⟩ := O.own_cells (own_le how (Nat.zero_le _)) (SeekW.way_pos HS.out); have hg4 := (show _ ≤ g4 from (O.own_ge how rfl).1); have hsp4 := heap_new w4 (.cells #[.int .i64 1, .slice (some ⟨g4, 0, none⟩) s.way.length wc4, .int .i64 s.at_, .int .i64 s.depth] 79 (0, 0)); have hbs : Below w4.heap.size w4 (w4.alloc (.cells #[.int .i64 1, .slice (some ⟨g4, 0, none⟩) s.way.length wc4, .int .i64 s.at_, .int .i64 s.depth] 79 (0, 0))) := (Below.refl _ _).alloc (Nat.le_refl _) _; have hSA : SpotAt (w4.alloc (.cells #[.int .i64 1, .slice (some ⟨g4, 0, none⟩) s.way.length wc4, .int .i64 s.at_, .int .i64 s.depth] 79 (0, 0))) w4.heap.size g4 wc4 s := ⟨(by rw [HWH.out]; exact hsp4), own_le (O.own_mod how (O.mod_of_below (S := fun _ => False) hbs) (fun _ _ h => h)) (Nat.zero_le _), SeekW.way_pos HS.out, HWM.out⟩; have hb24 := hb4.trans (hbs.mono hb4.size); have HC4 := hid ((hb24.block _ (lt_of_block HC2.out)).trans HC2.out); have HSA := hid hSA; have HUP := hid (up_at (k := 0) hSA (SeekW.way_pos HS.out) (by simpa using HRU.out.1)); have HB4 := hid (HB2.out.trans (hb24.mono HB2.out.size)); have HG4 : Hid (w.heap.size ≤ g4) := hid (by have := HB2.out.size; omega); have HL4 : Hid (w.heap.size ≤ w4.heap.size) := hid (by have := HB2.out.size; have := hb4.size; omega); clear how lg hg4 hsp4 hbs hSA hb24 hb4 a0 a1)) | (go_at_call 37; refine HUP.out.mono ?_; rintro e w5 ⟨rfl, hb5⟩; go_loud (have HSA5 := hid (HSA.out.keep hb5); have HUQ := hid (up_at (k := 1) HSA5.out HK1.out HRU.out.2); have HB5 := hid hb5; clear hb5 HUP)) | (go_at_call 37; refine HUQ.out.mono ?_; rintro e w6 ⟨rfl, hb6⟩; go_loud (have HSA6 := hid (HSA5.out.keep hb6); have HB6 := hid hb6; clear hb6)))
  have hb56 : Below w5.heap.size w5 ((w6.alloc (.cells #[.int .i64 r.1, .int .u32 r.2] 30 (0, 0))).alloc (.cells #[.int .i64 u0.1, .int .u32 u0.2] 30 (0, 0))) := HB6.out.trans ((((Below.refl _ _).alloc (Nat.le_refl _) _).alloc (by simp) _).mono HB6.out.size)
  have hb6W : Below w6.heap.size w6 ((w6.alloc (.cells #[.int .i64 r.1, .int .u32 r.2] 30 (0, 0))).alloc (.cells #[.int .i64 u0.1, .int .u32 u0.2] 30 (0, 0))) := ((Below.refl _ _).alloc (Nat.le_refl _) _).alloc (by simp) _
  have hb5' := HB5.out
  have hb4W := hb5'.trans (hb56.mono hb5'.size)
  have hr6 := blk_alloc (o' := (.cells #[.int .i64 u0.1, .int .u32 u0.2] 30 (0, 0))) (heap_new w6 (.cells #[.int .i64 r.1, .int .u32 r.2] 30 (0, 0)))
  have hu6 := heap_new (w6.alloc (.cells #[.int .i64 r.1, .int .u32 r.2] 30 (0, 0))) (.cells #[.int .i64 u0.1, .int .u32 u0.2] 30 (0, 0))
  rw [show (w6.alloc (.cells #[.int .i64 r.1, .int .u32 r.2] 30 (0, 0))).heap.size = w6.heap.size + 1 by simp] at hu6
  have HSP := hid (HSA6.out.keep hb6W)
  have HCW := hid ((hb4W.block _ (lt_of_block HC4.out)).trans HC4.out)
  have HBW := hid (HB4.out.trans (hb4W.mono HB4.out.size))
  have hrb0 : w.heap.size ≤ w6.heap.size := by have := HB4.out.size; have := hb5'.size; have := HB6.out.size; omega
  generalize hWX : (w6.alloc (.cells #[.int .i64 r.1, .int .u32 r.2] 30 (0, 0))).alloc (.cells #[.int .i64 u0.1, .int .u32 u0.2] 30 (0, 0)) = W at *
  generalize w6.heap.size = rb at *
  generalize w4.heap.size = sp at *
  generalize w2.heap.size = vb at *
  have R6 := hid hr6
  have U6 := hid hu6
  have HRB := hid hrb0
  clear hb56 hb6W hb5' hb4W hr6 hu6 hrb0 hWX HSA HSA5 HSA6 HB5 HB6 HC4 HB4 HC2 HB2 HSKA HUQ
  obtain ⟨l1, ya, yc, za, zc, hTA, hRE, hLx, hNI, hMI⟩ := TreeP.inner (show TreeP w t sb sg kb km P L tk from ⟨l, HT.out, HR.out⟩) HQU.out
  have HNI := hid hNI
  have HMI := hid hMI
  have HNW := hid (fun w1 (hb : Below W.heap.size W w1) => node_at u0.1 u0.2 w1 (hTA.keep (HBW.out.trans (hb.mono HBW.out.size))) hLx)
  clear hTA hRE hLx hNI hMI
  have HOK := hid (NJOk.calm (W0 := W) (T := 53) (z := #[.int .i64 0, .string ⟨#[]⟩, .string ⟨#[]⟩, .string ⟨#[]⟩, .slice none 0 0, .slice none 0 0]) (o := #[.int .i64 k, .string ⟨#[]⟩, .string ⟨#[]⟩, .string pt, .slice ya Lk.length yc, .slice za Lk.length zc]) (dl := fun _ => []))
  refine wp_region_val 7 (NJ (fun _ => False) (fun _ => True) (fun _ => True) (fun _ _ _ => True) W 53 #[.int .i64 0, .string ⟨#[]⟩, .string ⟨#[]⟩, .string ⟨#[]⟩, .slice none 0 0, .slice none 0 0] (fun _ => #[.int .i64 k, .string ⟨#[]⟩, .string ⟨#[]⟩, .string pt, .slice ya Lk.length yc, .slice za Lk.length zc]) [] [] 99 5 6 [0, 1, 2, 3, 4] [] (fun _ => []) (fun j => ([.pointer (some ⟨t, 0, none⟩), .pointer (some ⟨t, 0, none⟩), .pointer (some ⟨t, 0, none⟩), .agg #[.int .i64 u0.1, .int .u32 u0.2], .agg #[.int .i64 k, .string ⟨#[]⟩, .string ⟨#[]⟩, .string pt, .slice ya Lk.length yc, .slice za Lk.length zc]] : List Value)[j]?.getD undef) (fun _ _ => undef)) (by kernel_rfl) (by kernel_rfl) (by kernel_rfl) (NJ.start trivial) ?_ ?_
  ·
    dsimp only [List.take, AllOpsI, dsts, fill]
    refine ⟨?_, ?_, ?_, ?_, ?_, ?_, ?_⟩
    · intro D xs w1 hDk hwt hJ
      have HJ := hid hJ
      have HWT := hid hwt
      have HD := hid hDk
      clear hDk hwt hJ
      go_wp2_with (fail)
      first | exact ⟨.pointer (some ⟨t, 0, none⟩), by kernel_rfl, fun q hq => by obtain rfl := hq rfl; exact NJ.calm HOK.out HJ.out HD.out (by decide) (by decide) (by decide) (by decide) (by decide) (by decide) (fun _ => rfl) (Below.refl _ _)⟩ | exact ⟨.pointer (some ⟨t, 0, none⟩), by kernel_rfl, NJ.calm HOK.out HJ.out HD.out (by decide) (by decide) (by decide) (by decide) (by decide) (by decide) (fun _ => rfl) (Below.refl _ _)⟩
    · intro D xs w1 hDk hwt hJ
      have ee : xs 0 = .pointer (some ⟨t, 0, none⟩) := hJ.v 0 (hwt 0 (List.mem_of_elem_eq_true (by kernel_rfl))) (by decide)
      rw [ee]
      clear ee
      have HJ := hid hJ
      have HWT := hid hwt
      have HD := hid hDk
      clear hDk hwt hJ
      go_wp2_with (fail)
      first | exact ⟨.pointer (some ⟨t, 0, none⟩), by kernel_rfl, fun q hq => by obtain rfl := hq rfl; exact NJ.calm HOK.out HJ.out HD.out (by decide) (by decide) (by decide) (by decide) (by decide) (by decide) (fun _ => rfl) (Below.refl _ _)⟩ | exact ⟨.pointer (some ⟨t, 0, none⟩), by kernel_rfl, NJ.calm HOK.out HJ.out HD.out (by decide) (by decide) (by decide) (by decide) (by decide) (by decide) (fun _ => rfl) (Below.refl _ _)⟩
    · intro D xs w1 hDk hwt hJ
      have ee : xs 1 = .pointer (some ⟨t, 0, none⟩) := hJ.v 1 (hwt 1 (List.mem_of_elem_eq_true (by kernel_rfl))) (by decide)
      rw [ee]
      clear ee
      have HJ := hid hJ
      have HWT := hid hwt
      have HD := hid hDk
      clear hDk hwt hJ
      go_wp2_with (fail)
      first | exact ⟨.pointer (some ⟨t, 0, none⟩), by kernel_rfl, fun q hq => by obtain rfl := hq rfl; exact NJ.calm HOK.out HJ.out HD.out (by decide) (by decide) (by decide) (by decide) (by decide) (by decide) (fun _ => rfl) (Below.refl _ _)⟩ | exact ⟨.pointer (some ⟨t, 0, none⟩), by kernel_rfl, NJ.calm HOK.out HJ.out HD.out (by decide) (by decide) (by decide) (by decide) (by decide) (by decide) (fun _ => rfl) (Below.refl _ _)⟩
    · intro D xs w1 hDk hwt hJ
      have hr := ((hJ.m.below (Nat.le_refl _) (fun _ _ e => e)).block _ (lt_of_block U6.out)).trans U6.out; have n0 := cell_of hr 0; have n1 := cell_of hr 1; clear hr
      have HJ := hid hJ
      have HWT := hid hwt
      have HD := hid hDk
      clear hDk hwt hJ
      go_wp2_with (fail)
      first | exact ⟨.agg #[.int .i64 u0.1, .int .u32 u0.2], by kernel_rfl, fun q hq => by obtain rfl := hq rfl; exact NJ.calm HOK.out HJ.out HD.out (by decide) (by decide) (by decide) (by decide) (by decide) (by decide) (fun _ => rfl) (Below.refl _ _)⟩ | exact ⟨.agg #[.int .i64 u0.1, .int .u32 u0.2], by kernel_rfl, NJ.calm HOK.out HJ.out HD.out (by decide) (by decide) (by decide) (by decide) (by decide) (by decide) (fun _ => rfl) (Below.refl _ _)⟩
    · intro D xs w1 hDk hwt hJ
      have ee : xs 2 = .pointer (some ⟨t, 0, none⟩) := hJ.v 2 (hwt 2 (List.mem_of_elem_eq_true (by kernel_rfl))) (by decide)
      rw [ee]
      clear ee
      have ee : xs 3 = .agg #[.int .i64 u0.1, .int .u32 u0.2] := hJ.v 3 (hwt 3 (List.mem_of_elem_eq_true (by kernel_rfl))) (by decide)
      rw [ee]
      clear ee
      have HND := hid (HNW.out w1 (hJ.m.below (Nat.le_refl _) (fun _ _ e => e)))
      have HJ := hid hJ
      have HWT := hid hwt
      have HD := hid hDk
      clear hDk hwt hJ
      go_wp2_with (go_at_call 38; refine HND.out.mono ?_; rintro e w2 ⟨rfl, hb2⟩)
      first | exact ⟨.agg #[.int .i64 k, .string ⟨#[]⟩, .string ⟨#[]⟩, .string pt, .slice ya Lk.length yc, .slice za Lk.length zc], by kernel_rfl, fun q hq => by obtain rfl := hq rfl; exact NJ.calm HOK.out HJ.out HD.out (by decide) (by decide) (by decide) (by decide) (by decide) (by decide) (fun _ => rfl) (hb2)⟩ | exact ⟨.agg #[.int .i64 k, .string ⟨#[]⟩, .string ⟨#[]⟩, .string pt, .slice ya Lk.length yc, .slice za Lk.length zc], by kernel_rfl, NJ.calm HOK.out HJ.out HD.out (by decide) (by decide) (by decide) (by decide) (by decide) (by decide) (fun _ => rfl) (hb2)⟩
    · intro D xs w1 hDk hwt hJ
      have HJ := hid hJ
      have HWT := hid hwt
      have HD := hid hDk
      clear hDk hwt hJ
      go_wp2_with fail
      first | exact ⟨.pointer (some ⟨w1.heap.size, 0, none⟩), by kernel_rfl, fun q hq => by obtain rfl := hq rfl; exact NJ.alloc HOK.out HJ.out HD.out (by decide) (by decide) (by decide) (by decide) (by decide)⟩ | exact ⟨.pointer (some ⟨w1.heap.size, 0, none⟩), by kernel_rfl, NJ.alloc HOK.out HJ.out HD.out (by decide) (by decide) (by decide) (by decide) (by decide)⟩
    · intro D xs w1 hDk hwt hJ
      have hA := hwt 5 (List.mem_of_elem_eq_true (by kernel_rfl))
      obtain ⟨b0, hb0, eb0, hc0⟩ := hJ.a hA
      rw [eb0]
      have HEB := hid eb0
      clear eb0
      rw [show D 6 = false from hDk] at hc0
      simp only [cond_false] at hc0
      have ee : xs 4 = .agg #[.int .i64 k, .string ⟨#[]⟩, .string ⟨#[]⟩, .string pt, .slice ya Lk.length yc, .slice za Lk.length zc] := hJ.v 4 (hwt 4 (List.mem_of_elem_eq_true (by kernel_rfl))) (by decide)
      rw [ee]
      clear ee
      have q0 := cell_of hc0 0
      have q1 := cell_of hc0 1
      have q2 := cell_of hc0 2
      have q3 := cell_of hc0 3
      have q4 := cell_of hc0 4
      have q5 := cell_of hc0 5
      have qf := free_of hc0
      have HC := hid hc0
      clear hc0
      have HJ := hid hJ
      have HWT := hid hwt
      have HD := hid hDk
      clear hDk hwt hJ
      go_wp2_with fail
      obtain ⟨m1, m2⟩ := (set6_mod _ _ _ _ _ _ HC.out)
      first | exact ⟨undef, by kernel_rfl, fun q _ => NJ.store HOK.out HJ.out HD.out (by decide) (by decide) (by decide) (by decide) (by decide) hA ((fun k h => by simp at h)) HEB.out m2 m1⟩ | exact ⟨by kernel_rfl, fun q => NJ.store HOK.out HJ.out HD.out (by decide) (by decide) (by decide) (by decide) (by decide) hA ((fun k h => by simp at h)) HEB.out m2 m1⟩
  intro D xs w7 hD hJ
  obtain ⟨u, hu, eu, hc⟩ := hJ.a (hD 5 (by omega))
  rw [hD 6 (by omega)] at hc
  simp only [cond_true] at hc
  have HBu := hid (hJ.m.below (Nat.le_refl _) (fun _ _ e => e))
  have HOu := hid hc
  have HLu := hid hu
  dsimp only [List.take, dsts, fill, List.drop]
  rw [eu]
  clear hD hJ eu hc hu HOK
  have HBW7 := hid (HBW.out.trans (HBu.out.mono HBW.out.size))
  have R7 := hid ((HBu.out.block _ (lt_of_block R6.out)).trans R6.out)
  have U7 := hid ((HBu.out.block _ (lt_of_block U6.out)).trans U6.out)
  have HSP7 := hid (HSP.out.keep HBu.out)
  have HC7 := hid ((HBu.out.block _ (lt_of_block HCW.out)).trans HCW.out)
  have hgy : ∃ gy, ya = some ⟨gy, 0, none⟩ ∧ gy < w.heap.size ∧ ∀ j v, (bytesL Lk)[j]? = some v → w.cell? ⟨gy, j, none⟩ = some v := O.own_cells HNI.out.b (by have := (List.getElem?_eq_some_iff.1 HKJ.out).1; omega)
  obtain ⟨gy, rfl, ly, cy⟩ := hgy
  have HGY := hid (And.intro ly (cy jj _ (bytesL_get HKJ.out)))
  have HJL : Hid (jj < Lk.length) := hid (List.getElem?_eq_some_iff.1 HKJ.out).1
  clear ly cy
  have HIX := hid (fun w1 (hb : Below w7.heap.size w7 w1) => rIndex_at r.1 r.2 w1 (HNI.out.keep (HBW7.out.trans (hb.mono HBW7.out.size))).z HKJ.out HKS.out.1 HKS.out.2 HKN.out HNI.out.room)
  clear HSP HCW HBW R6 U6 HNW
  go_wp2_with fail
  have hjl := HJL.out
  refine wp_region_seq 9 (fun w1 => Below (w7).heap.size (w7) w1) (by kernel_rfl) (by kernel_rfl) (by kernel_rfl) ⟨rfl, rfl, rfl, Nat.le_refl _, fun _ _ => rfl⟩ ?_
  dsimp only [List.take]
  iterate 9
    refine Seq.cons (a' := ?_) ?_ ?_ ?_
    rotate_left
    ·
      intro w1 hw1
      have ho := (hw1.block u (lt_of_block HOu.out)).trans HOu.out; have o4 := cell_of ho 4; have o5 := cell_of ho 5; have hr := (hw1.block rb (lt_of_block R7.out)).trans R7.out; have n0 := cell_of hr 0; have n1 := cell_of hr 1; have hg := (HBW7.out.trans (hw1.mono HBW7.out.size)).block gy HGY.out.1; have g0 := (World.cell?_of_block (w := w) hg).trans HGY.out.2; clear ho hr hg
      go_wp2_with (go_at_call 51; refine (HIX.out _ hw1).mono ?_; rintro e w' ⟨rfl, hb⟩)
      refine ⟨?_, by first | assumption | (simpa using below_chain hw1 hb hw1.size)⟩
      exact rfl
    · kernel_rfl
  refine SeqI.nil ?_
  intro _ w1 _ hw1
  dsimp only [List.drop]
  obtain ⟨w8, hw8⟩ : ∃ w8, w8 = w1 := ⟨_, rfl⟩
  subst hw8
  have hb8 := hw1
  have HBW8 := hid (HBW7.out.trans (hb8.mono HBW7.out.size))
  have R8 := hid ((hb8.block _ (lt_of_block R7.out)).trans R7.out)
  have U8 := hid ((hb8.block _ (lt_of_block U7.out)).trans U7.out)
  have HSP8 := hid (HSP7.out.keep hb8)
  have hc8 := (hb8.block _ (lt_of_block HC7.out)).trans HC7.out
  rw [HDN.out] at hc8
  have HO8 := hid ((hb8.block _ (lt_of_block HOu.out)).trans HOu.out)
  have c1 := cell_of hc8 1
  clear hw1 hb8 hc8 HSP7 U7 R7 HC7 HIX HOu HBu HBW7
  have o0 := cell_of HO8.out 0
  have o1 := cell_of HO8.out 1
  have o2 := cell_of HO8.out 2
  have o3 := cell_of HO8.out 3
  have o4 := cell_of HO8.out 4
  have o5 := cell_of HO8.out 5
  have hN2 : ∀ L', Lk = L' → O.NodeIn w8 k pt (some ⟨gy, 0, none⟩) Lk.length yc za Lk.length zc L' := fun L' e => by subst e; exact HNI.out.keep HBW8.out
  have HRS := hid (O.Rest_at ka kz kk.b ((HNI.out.ok kk (List.mem_of_getElem? HKJ.out)).1) (hN2 _ HLK.out) (HRM.out.keep HBW8.out) HMI.out (by rw [← HLK.out, HKF.out]; rfl))
  rw [HKX.out] at HRS
  clear hN2
  go_wp2_with (go_at_call 53; refine HRS.out.mono ?_; rintro e w9 ⟨rfl, hb9⟩; go_loud (have HB9 := hid hb9; clear hb9))
  have hx9 := heap_new w9 (.cells #[.int .i64 kx.s, .int .u32 kx.g] 30 (0, 0))
  have hb9 : Below w9.heap.size w9 (w9.alloc (.cells #[.int .i64 kx.s, .int .u32 kx.g] 30 (0, 0))) := (Below.refl _ _).alloc (Nat.le_refl _) _
  have hb89 := HB9.out.trans (hb9.mono HB9.out.size)
  have hxb0 : w.heap.size ≤ w9.heap.size := by have := HBW8.out.size; have := HB9.out.size; omega
  generalize hWY : w9.alloc (.cells #[.int .i64 kx.s, .int .u32 kx.g] 30 (0, 0)) = W' at *
  generalize w9.heap.size = xb at *
  have HBY := hid (HBW8.out.trans (hb89.mono HBW8.out.size))
  have RY := hid ((hb89.block _ (lt_of_block R8.out)).trans R8.out)
  have UY := hid ((hb89.block _ (lt_of_block U8.out)).trans U8.out)
  have XY := hid hx9
  have HSPY := hid (HSP8.out.keep hb89)
  have HXB := hid hxb0
  clear hx9 hb9 hb89 hxb0 hWY HB9 HRS R8 U8 HSP8 HBW8 HO8 o0 o1 o2 o3 o4 o5 c1
  obtain ⟨l2, hTA2, _, hL2⟩ := TreeP.leaf (show TreeP w t sb sg kb km P L tk from ⟨l, HT.out, HR.out⟩) HQZ.out
  have HNW := hid (fun w1 (hb : Below W'.heap.size W' w1) => node_at kx.s kx.g w1 (hTA2.keep (HBY.out.trans (hb.mono HBY.out.size))) hL2)
  clear hTA2 hL2
  have HOK := hid (NJOk.calm (W0 := W') (T := 53) (z := #[.int .i64 0, .string ⟨#[]⟩, .string ⟨#[]⟩, .string ⟨#[]⟩, .slice none 0 0, .slice none 0 0]) (o := #[.int .i64 1, .string cz, .string vz, .string ⟨#[]⟩, .slice none 0 0, .slice none 0 0]) (dl := fun _ => []))
  refine wp_region_val 7 (NJ (fun _ => False) (fun _ => True) (fun _ => True) (fun _ _ _ => True) W' 53 #[.int .i64 0, .string ⟨#[]⟩, .string ⟨#[]⟩, .string ⟨#[]⟩, .slice none 0 0, .slice none 0 0] (fun _ => #[.int .i64 1, .string cz, .string vz, .string ⟨#[]⟩, .slice none 0 0, .slice none 0 0]) [] [] 99 5 6 [0, 1, 2, 3, 4] [] (fun _ => []) (fun j => ([.pointer (some ⟨t, 0, none⟩), .pointer (some ⟨t, 0, none⟩), .pointer (some ⟨t, 0, none⟩), .agg #[.int .i64 kx.s, .int .u32 kx.g], .agg #[.int .i64 1, .string cz, .string vz, .string ⟨#[]⟩, .slice none 0 0, .slice none 0 0]] : List Value)[j]?.getD undef) (fun _ _ => undef)) (by kernel_rfl) (by kernel_rfl) (by kernel_rfl) (NJ.start trivial) ?_ ?_
  ·
    dsimp only [List.take, AllOpsI, dsts, fill]
    refine ⟨?_, ?_, ?_, ?_, ?_, ?_, ?_⟩
    · intro D xs w1 hDk hwt hJ
      have HJ := hid hJ
      have HWT := hid hwt
      have HD := hid hDk
      clear hDk hwt hJ
      go_wp2_with (fail)
      first | exact ⟨.pointer (some ⟨t, 0, none⟩), by kernel_rfl, fun q hq => by obtain rfl := hq rfl; exact NJ.calm HOK.out HJ.out HD.out (by decide) (by decide) (by decide) (by decide) (by decide) (by decide) (fun _ => rfl) (Below.refl _ _)⟩ | exact ⟨.pointer (some ⟨t, 0, none⟩), by kernel_rfl, NJ.calm HOK.out HJ.out HD.out (by decide) (by decide) (by decide) (by decide) (by decide) (by decide) (fun _ => rfl) (Below.refl _ _)⟩
    · intro D xs w1 hDk hwt hJ
      have ee : xs 0 = .pointer (some ⟨t, 0, none⟩) := hJ.v 0 (hwt 0 (List.mem_of_elem_eq_true (by kernel_rfl))) (by decide)
      rw [ee]
      clear ee
      have HJ := hid hJ
      have HWT := hid hwt
      have HD := hid hDk
      clear hDk hwt hJ
      go_wp2_with (fail)
      first | exact ⟨.pointer (some ⟨t, 0, none⟩), by kernel_rfl, fun q hq => by obtain rfl := hq rfl; exact NJ.calm HOK.out HJ.out HD.out (by decide) (by decide) (by decide) (by decide) (by decide) (by decide) (fun _ => rfl) (Below.refl _ _)⟩ | exact ⟨.pointer (some ⟨t, 0, none⟩), by kernel_rfl, NJ.calm HOK.out HJ.out HD.out (by decide) (by decide) (by decide) (by decide) (by decide) (by decide) (fun _ => rfl) (Below.refl _ _)⟩
    · intro D xs w1 hDk hwt hJ
      have ee : xs 1 = .pointer (some ⟨t, 0, none⟩) := hJ.v 1 (hwt 1 (List.mem_of_elem_eq_true (by kernel_rfl))) (by decide)
      rw [ee]
      clear ee
      have HJ := hid hJ
      have HWT := hid hwt
      have HD := hid hDk
      clear hDk hwt hJ
      go_wp2_with (fail)
      first | exact ⟨.pointer (some ⟨t, 0, none⟩), by kernel_rfl, fun q hq => by obtain rfl := hq rfl; exact NJ.calm HOK.out HJ.out HD.out (by decide) (by decide) (by decide) (by decide) (by decide) (by decide) (fun _ => rfl) (Below.refl _ _)⟩ | exact ⟨.pointer (some ⟨t, 0, none⟩), by kernel_rfl, NJ.calm HOK.out HJ.out HD.out (by decide) (by decide) (by decide) (by decide) (by decide) (by decide) (fun _ => rfl) (Below.refl _ _)⟩
    · intro D xs w1 hDk hwt hJ
      have hr := ((hJ.m.below (Nat.le_refl _) (fun _ _ e => e)).block _ (lt_of_block XY.out)).trans XY.out; have n0 := cell_of hr 0; have n1 := cell_of hr 1; clear hr
      have HJ := hid hJ
      have HWT := hid hwt
      have HD := hid hDk
      clear hDk hwt hJ
      go_wp2_with (fail)
      first | exact ⟨.agg #[.int .i64 kx.s, .int .u32 kx.g], by kernel_rfl, fun q hq => by obtain rfl := hq rfl; exact NJ.calm HOK.out HJ.out HD.out (by decide) (by decide) (by decide) (by decide) (by decide) (by decide) (fun _ => rfl) (Below.refl _ _)⟩ | exact ⟨.agg #[.int .i64 kx.s, .int .u32 kx.g], by kernel_rfl, NJ.calm HOK.out HJ.out HD.out (by decide) (by decide) (by decide) (by decide) (by decide) (by decide) (fun _ => rfl) (Below.refl _ _)⟩
    · intro D xs w1 hDk hwt hJ
      have ee : xs 2 = .pointer (some ⟨t, 0, none⟩) := hJ.v 2 (hwt 2 (List.mem_of_elem_eq_true (by kernel_rfl))) (by decide)
      rw [ee]
      clear ee
      have ee : xs 3 = .agg #[.int .i64 kx.s, .int .u32 kx.g] := hJ.v 3 (hwt 3 (List.mem_of_elem_eq_true (by kernel_rfl))) (by decide)
      rw [ee]
      clear ee
      have HND := hid (HNW.out w1 (hJ.m.below (Nat.le_refl _) (fun _ _ e => e)))
      have HJ := hid hJ
      have HWT := hid hwt
      have HD := hid hDk
      clear hDk hwt hJ
      go_wp2_with (go_at_call 38; refine HND.out.mono ?_; rintro e w2 ⟨rfl, hb2⟩)
      first | exact ⟨.agg #[.int .i64 1, .string cz, .string vz, .string ⟨#[]⟩, .slice none 0 0, .slice none 0 0], by kernel_rfl, fun q hq => by obtain rfl := hq rfl; exact NJ.calm HOK.out HJ.out HD.out (by decide) (by decide) (by decide) (by decide) (by decide) (by decide) (fun _ => rfl) (hb2)⟩ | exact ⟨.agg #[.int .i64 1, .string cz, .string vz, .string ⟨#[]⟩, .slice none 0 0, .slice none 0 0], by kernel_rfl, NJ.calm HOK.out HJ.out HD.out (by decide) (by decide) (by decide) (by decide) (by decide) (by decide) (fun _ => rfl) (hb2)⟩
    · intro D xs w1 hDk hwt hJ
      have HJ := hid hJ
      have HWT := hid hwt
      have HD := hid hDk
      clear hDk hwt hJ
      go_wp2_with fail
      first | exact ⟨.pointer (some ⟨w1.heap.size, 0, none⟩), by kernel_rfl, fun q hq => by obtain rfl := hq rfl; exact NJ.alloc HOK.out HJ.out HD.out (by decide) (by decide) (by decide) (by decide) (by decide)⟩ | exact ⟨.pointer (some ⟨w1.heap.size, 0, none⟩), by kernel_rfl, NJ.alloc HOK.out HJ.out HD.out (by decide) (by decide) (by decide) (by decide) (by decide)⟩
    · intro D xs w1 hDk hwt hJ
      have hA := hwt 5 (List.mem_of_elem_eq_true (by kernel_rfl))
      obtain ⟨b0, hb0, eb0, hc0⟩ := hJ.a hA
      rw [eb0]
      have HEB := hid eb0
      clear eb0
      rw [show D 6 = false from hDk] at hc0
      simp only [cond_false] at hc0
      have ee : xs 4 = .agg #[.int .i64 1, .string cz, .string vz, .string ⟨#[]⟩, .slice none 0 0, .slice none 0 0] := hJ.v 4 (hwt 4 (List.mem_of_elem_eq_true (by kernel_rfl))) (by decide)
      rw [ee]
      clear ee
      have q0 := cell_of hc0 0
      have q1 := cell_of hc0 1
      have q2 := cell_of hc0 2
      have q3 := cell_of hc0 3
      have q4 := cell_of hc0 4
      have q5 := cell_of hc0 5
      have qf := free_of hc0
      have HC := hid hc0
      clear hc0
      have HJ := hid hJ
      have HWT := hid hwt
      have HD := hid hDk
      clear hDk hwt hJ
      go_wp2_with fail
      obtain ⟨m1, m2⟩ := (set6_mod _ _ _ _ _ _ HC.out)
      first | exact ⟨undef, by kernel_rfl, fun q _ => NJ.store HOK.out HJ.out HD.out (by decide) (by decide) (by decide) (by decide) (by decide) hA ((fun k h => by simp at h)) HEB.out m2 m1⟩ | exact ⟨by kernel_rfl, fun q => NJ.store HOK.out HJ.out HD.out (by decide) (by decide) (by decide) (by decide) (by decide) hA ((fun k h => by simp at h)) HEB.out m2 m1⟩
  intro D xs wA hD hJ
  obtain ⟨uA, hu, eu, hc⟩ := hJ.a (hD 5 (by omega))
  rw [hD 6 (by omega)] at hc
  simp only [cond_true] at hc
  have HBuA := hid (hJ.m.below (Nat.le_refl _) (fun _ _ e => e))
  have HOuA := hid hc
  have HLuA := hid hu
  dsimp only [List.take, dsts, fill, List.drop]
  rw [eu]
  clear hD hJ eu hc hu HOK
  have HBA := hid (HBY.out.trans (HBuA.out.mono HBY.out.size))
  have RA := hid ((HBuA.out.block _ (lt_of_block RY.out)).trans RY.out)
  have UA := hid ((HBuA.out.block _ (lt_of_block UY.out)).trans UY.out)
  have XA := hid ((HBuA.out.block _ (lt_of_block XY.out)).trans XY.out)
  have HSPA := hid (HSPY.out.keep HBuA.out)
  have o0 := cell_of HOuA.out 0
  clear RY UY XY HSPY HBY HNW HLuA HBuA
  go_wp2_with fail
  clear o0
  have hlt := HLT.out
  have hszA := HBA.out.size
  have hrb := HRB.out
  have hxb := HXB.out
  have hg4 := HG4.out
  have hsp := HL4.out
  have HNS : Hid (¬ rb + 1 = sg ∧ ¬ xb = sg ∧ ¬ sp = sg ∧ ¬ g4 = sg) := hid (by omega)
  have HNS2 : Hid (¬ rb = sg ∧ ¬ rb + 1 = sg) := hid (by omega)
  have HK2 : Hid (2 < s.way.length) := hid (by omega)
  have HPA := hid ((show TreeP w t sb sg kb km P L tk from ⟨l, HT.out, HR.out⟩).keep HBA.out)
  have HLA : Hid (t < wA.heap.size ∧ sb < wA.heap.size ∧ sg < wA.heap.size ∧ kb < wA.heap.size ∧ km < wA.heap.size) := hid (by omega)
  clear hlt hszA hrb hxb hg4 hsp
  refine wp_region_seqI 7 (Turn 6 (KidJ wA t sb sg kb km P L tk) (KidJ wA t sb sg kb km (P.set iv ⟨true, ⟨.inner kv ptv (turnK Lv kkv.b kx.s kx.g), plv, div_⟩, v0.2⟩) L tk)) (by kernel_rfl) (by kernel_rfl) (by kernel_rfl) (Turn.start ⟨(Mod.refl (· = sg) wA).drew, HPA.out.keep (Below.refl _ _).drew⟩) ?_
  dsimp only [List.take]
  iterate 6
    refine Seq.calm (a' := ?_) (by decide) ?_ ?_ ?_
    rotate_left
    ·
      intro w1 hw1
      have hM : Mod (· = sg) wA w1 := hw1.elim KidJ.m KidJ.m; have n0 := cell_of ((hM.block (rb + 1) (lt_of_block UA.out) HNS.out.1).trans UA.out) 0; have n1 := cell_of ((hM.block (rb + 1) (lt_of_block UA.out) HNS.out.1).trans UA.out) 1; have m0 := cell_of ((hM.block xb (lt_of_block XA.out) HNS.out.2.1).trans XA.out) 0; have m1 := cell_of ((hM.block xb (lt_of_block XA.out) HNS.out.2.1).trans XA.out) 1; have HUX := hid (up_at (k := 2) (HSPA.out.mod' hM HNS.out.2.2.1 HNS.out.2.2.2) HK2.out HVL.out); clear hM
      go_wp2_with (go_at_call 37; refine HUX.out.mono ?_; rintro e w' ⟨rfl, hb⟩)
      first | (refine ⟨?_, id, id⟩; exact rfl) | (refine ⟨?_, (fun h => KidJ.keep h hb), (fun h => KidJ.keep h hb)⟩; exact rfl)
    · kernel_rfl
  refine Seq.turn (a' := ?_) ?_ ?_ ?_
  rotate_left
  ·
    intro w1 hw1
    have HM := hid hw1.m
    have HTT := hid hw1.t
    have HRMX := hid (rooms_mod (HRM.out.keep HBA.out) hw1.m H0.out)
    clear hw1
    go_wp2_with (go_at_call 43; refine (kid_P v0.1 v0.2 u0.1 u0.2 kx.s kx.g w1 HTT.out HRMX.out HV.out.1 HV.out.2.1 HV.out.2.2.1 HV.out.2.2.2.1 HV.out.2.2.2.2.1 HV.out.2.2.2.2.2.1 HV.out.2.2.2.2.2.2).mono ?_; rintro e w2 ⟨rfl, hT, hX⟩)
    refine ⟨?_, HM.out.trans hX (fun _ _ h => h), hT⟩
    exact rfl
  · kernel_rfl
  iterate 0
    refine Seq.calm (a' := ?_) (by decide) ?_ ?_ ?_
    rotate_left
    ·
      intro w1 hw1
      have hM : Mod (· = sg) wA w1 := hw1.elim KidJ.m KidJ.m; have n0 := cell_of ((hM.block (rb + 1) (lt_of_block UA.out) HNS.out.1).trans UA.out) 0; have n1 := cell_of ((hM.block (rb + 1) (lt_of_block UA.out) HNS.out.1).trans UA.out) 1; have m0 := cell_of ((hM.block xb (lt_of_block XA.out) HNS.out.2.1).trans XA.out) 0; have m1 := cell_of ((hM.block xb (lt_of_block XA.out) HNS.out.2.1).trans XA.out) 1; have HUX := hid (up_at (k := 2) (HSPA.out.mod' hM HNS.out.2.2.1 HNS.out.2.2.2) HK2.out HVL.out); clear hM
      go_wp2_with (go_at_call 37; refine HUX.out.mono ?_; rintro e w' ⟨rfl, hb⟩)
      first | (refine ⟨?_, id, id⟩; exact rfl) | (refine ⟨?_, (fun h => KidJ.keep h hb), (fun h => KidJ.keep h hb)⟩; exact rfl)
    · kernel_rfl
  refine SeqI.nil ?_
  intro D w1 hD hI
  replace hI := hI.done (hD 6 (by omega))
  clear hD
  dsimp only [List.drop]
  obtain ⟨wB, hwB⟩ : ∃ wB, wB = w1 := ⟨_, rfl⟩
  subst hwB
  have HJB := hid hI
  have RB := hid ((hI.m.block rb (lt_of_block RA.out) HNS2.out.1).trans RA.out)
  have UB := hid ((hI.m.block (rb + 1) (lt_of_block UA.out) HNS2.out.2).trans UA.out)
  clear hI RA UA XA HSPA
  go_wp2_with fail
  have HQR2 := HQR.out
  have hlr : ∃ i q, LiveP (P.set iv ⟨true, ⟨.inner kv ptv (turnK Lv kkv.b kx.s kx.g), plv, div_⟩, v0.2⟩) r.1 r.2 i q := by obtain ⟨i, q, hq⟩ := HQR2; exact LiveP.set_any hq HV.out.1 _
  have hlu : ∃ i q, LiveP (P.set iv ⟨true, ⟨.inner kv ptv (turnK Lv kkv.b kx.s kx.g), plv, div_⟩, v0.2⟩) u0.1 u0.2 i q := LiveP.set_any HQU.out HV.out.1 _
  have HLR := hid hlr
  have HLU2 := hid hlu
  have HLB : Hid (t < wB.heap.size ∧ sb < wB.heap.size ∧ sg < wB.heap.size ∧ kb < wB.heap.size ∧ km < wB.heap.size) := hid (by have := HLA.out; have := HJB.out.m.size; omega)
  have HTB := hid HJB.out.t
  have hok : NJOk (· = sg) (fun w1 => TreeP w1 t sb sg kb km (P.set iv ⟨true, ⟨.inner kv ptv (turnK Lv kkv.b kx.s kx.g), plv, div_⟩, v0.2⟩) L tk) (fun w1 => TreeP w1 t sb sg kb km (dieAll (P.set iv ⟨true, ⟨.inner kv ptv (turnK Lv kkv.b kx.s kx.g), plv, div_⟩, v0.2⟩) [r, u0]) L tk) (fun (_ : Nat) (w : World) (v : Value) => ∃ a, v = .slice (some ⟨a, 0, none⟩) 2 2 ∧ wB.heap.size ≤ a ∧ w.heap[a]? = some (.cells #[.int .i64 r.1, .int .u32 r.2, .int .i64 u0.1, .int .u32 u0.2] 30 (0, 0))) wB 47 #[] (fun _ => #[]) [] (fun _ => [6]) (fun _ xs => xs 6) := by
    have hl := HLB.out
    have nr : ∀ (w1 : World) (u' k : Nat), w1.heap[u']? = some (.cells #[] 47 (0, 0)) → k = u' → NoRow w1 k := fun w1 u' k hu e cs T fr hk => by
      subst e
      rw [hu] at hk
      cases hk
      exact ⟨by decide, by decide⟩
    refine ⟨fun w w' h hb => h.keep hb, fun w w' h hb => h.keep hb, ?_, ?_, ?_, ?_, ?_, fun k e => by omega, fun _ _ _ => rfl, fun j xs ys h => h 6 (by simp)⟩
    · rintro j w w' v ⟨a, h1, h2, h3⟩ hb
      exact ⟨a, h1, h2, (hb.block a (lt_of_block h3)).trans h3⟩
    · intro w w' u' hu hc hM h
      exact h.mod hM (fun k e => nr w u' k hc e) (show ¬ t = u' by omega) (show ¬ sb = u' by omega) (show ¬ sg = u' by omega) (show ¬ kb = u' by omega) (show ¬ km = u' by omega)
    · intro w w' u' hu hc hM h
      exact h.mod hM (fun k e => nr w u' k hc e) (show ¬ t = u' by omega) (show ¬ sb = u' by omega) (show ¬ sg = u' by omega) (show ¬ kb = u' by omega) (show ¬ km = u' by omega)
    · rintro j w w' u' v hu hc hM ⟨a, h1, h2, h3⟩
      exact ⟨a, h1, h2, (hM.block a (lt_of_block h3) (fun e => by have e2 : a = u' := e; subst e2; rw [h3] at hc; cases hc)).trans h3⟩
    · rintro j w w' v hM ⟨a, h1, h2, h3⟩
      exact ⟨a, h1, h2, (hM.block a (lt_of_block h3) (show ¬ a = sg by omega)).trans h3⟩
  have HOK := hid hok
  clear hok hlr hlu HQR2
  refine wp_region_val 9 (NJ (· = sg) (fun w1 => TreeP w1 t sb sg kb km (P.set iv ⟨true, ⟨.inner kv ptv (turnK Lv kkv.b kx.s kx.g), plv, div_⟩, v0.2⟩) L tk) (fun w1 => TreeP w1 t sb sg kb km (dieAll (P.set iv ⟨true, ⟨.inner kv ptv (turnK Lv kkv.b kx.s kx.g), plv, div_⟩, v0.2⟩) [r, u0]) L tk) (fun (_ : Nat) (w : World) (v : Value) => ∃ a, v = .slice (some ⟨a, 0, none⟩) 2 2 ∧ wB.heap.size ≤ a ∧ w.heap[a]? = some (.cells #[.int .i64 r.1, .int .u32 r.2, .int .i64 u0.1, .int .u32 u0.2] 30 (0, 0))) wB 47 #[] (fun _ => #[]) [] [5, 6] 6 98 97 [0, 1, 2, 3, 4, 8] [7] (fun _ => [6]) (fun j' => ([.pointer (some ⟨t, 0, none⟩), .pointer (some ⟨t, 0, none⟩), .pointer (some ⟨t, 0, none⟩), .agg #[.int .i64 r.1, .int .u32 r.2], .agg #[.int .i64 u0.1, .int .u32 u0.2], undef, undef, undef, .int .i64 0] : List Value)[j']?.getD undef) (fun _ xs => xs 6)) (by kernel_rfl) (by kernel_rfl) (by kernel_rfl) (NJ.start (HTB.out.keep (Below.refl _ _).drew)) ?_ ?_
  ·
    dsimp only [List.take, AllOpsI, dsts, fill]
    refine ⟨?_, ?_, ?_, ?_, ?_, ?_, ?_, ?_, ?_⟩
    · intro D xs w1 hDk hwt hJ
      have HJ := hid hJ
      have HWT := hid hwt
      have HD := hid hDk
      clear hDk hwt hJ
      go_wp2_with (fail)
      first | exact ⟨.pointer (some ⟨t, 0, none⟩), by kernel_rfl, fun q hq => by obtain rfl := hq rfl; exact NJ.calm HOK.out HJ.out HD.out (by decide) (by decide) (by decide) (by decide) (by decide) (by decide) (fun _ => rfl) (Below.refl _ _)⟩ | exact ⟨.pointer (some ⟨t, 0, none⟩), by kernel_rfl, NJ.calm HOK.out HJ.out HD.out (by decide) (by decide) (by decide) (by decide) (by decide) (by decide) (fun _ => rfl) (Below.refl _ _)⟩
    · intro D xs w1 hDk hwt hJ
      have ee : xs 0 = .pointer (some ⟨t, 0, none⟩) := hJ.v 0 (hwt 0 (List.mem_of_elem_eq_true (by kernel_rfl))) (by decide)
      rw [ee]
      clear ee
      have HJ := hid hJ
      have HWT := hid hwt
      have HD := hid hDk
      clear hDk hwt hJ
      go_wp2_with (fail)
      first | exact ⟨.pointer (some ⟨t, 0, none⟩), by kernel_rfl, fun q hq => by obtain rfl := hq rfl; exact NJ.calm HOK.out HJ.out HD.out (by decide) (by decide) (by decide) (by decide) (by decide) (by decide) (fun _ => rfl) (Below.refl _ _)⟩ | exact ⟨.pointer (some ⟨t, 0, none⟩), by kernel_rfl, NJ.calm HOK.out HJ.out HD.out (by decide) (by decide) (by decide) (by decide) (by decide) (by decide) (fun _ => rfl) (Below.refl _ _)⟩
    · intro D xs w1 hDk hwt hJ
      have ee : xs 1 = .pointer (some ⟨t, 0, none⟩) := hJ.v 1 (hwt 1 (List.mem_of_elem_eq_true (by kernel_rfl))) (by decide)
      rw [ee]
      clear ee
      have HJ := hid hJ
      have HWT := hid hwt
      have HD := hid hDk
      clear hDk hwt hJ
      go_wp2_with (fail)
      first | exact ⟨.pointer (some ⟨t, 0, none⟩), by kernel_rfl, fun q hq => by obtain rfl := hq rfl; exact NJ.calm HOK.out HJ.out HD.out (by decide) (by decide) (by decide) (by decide) (by decide) (by decide) (fun _ => rfl) (Below.refl _ _)⟩ | exact ⟨.pointer (some ⟨t, 0, none⟩), by kernel_rfl, NJ.calm HOK.out HJ.out HD.out (by decide) (by decide) (by decide) (by decide) (by decide) (by decide) (fun _ => rfl) (Below.refl _ _)⟩
    · intro D xs w1 hDk hwt hJ
      have hr := (hJ.m.block (rb) (lt_of_block RB.out) HNS2.out.1).trans RB.out
      have n0 := cell_of hr 0
      have n1 := cell_of hr 1
      clear hr
      have HJ := hid hJ
      have HWT := hid hwt
      have HD := hid hDk
      clear hDk hwt hJ
      go_wp2_with (fail)
      first | exact ⟨.agg #[.int .i64 r.1, .int .u32 r.2], by kernel_rfl, fun q hq => by obtain rfl := hq rfl; exact NJ.calm HOK.out HJ.out HD.out (by decide) (by decide) (by decide) (by decide) (by decide) (by decide) (fun _ => rfl) (Below.refl _ _)⟩ | exact ⟨.agg #[.int .i64 r.1, .int .u32 r.2], by kernel_rfl, NJ.calm HOK.out HJ.out HD.out (by decide) (by decide) (by decide) (by decide) (by decide) (by decide) (fun _ => rfl) (Below.refl _ _)⟩
    · intro D xs w1 hDk hwt hJ
      have hr := (hJ.m.block (rb + 1) (lt_of_block UB.out) HNS2.out.2).trans UB.out
      have n0 := cell_of hr 0
      have n1 := cell_of hr 1
      clear hr
      have HJ := hid hJ
      have HWT := hid hwt
      have HD := hid hDk
      clear hDk hwt hJ
      go_wp2_with (fail)
      first | exact ⟨.agg #[.int .i64 u0.1, .int .u32 u0.2], by kernel_rfl, fun q hq => by obtain rfl := hq rfl; exact NJ.calm HOK.out HJ.out HD.out (by decide) (by decide) (by decide) (by decide) (by decide) (by decide) (fun _ => rfl) (Below.refl _ _)⟩ | exact ⟨.agg #[.int .i64 u0.1, .int .u32 u0.2], by kernel_rfl, NJ.calm HOK.out HJ.out HD.out (by decide) (by decide) (by decide) (by decide) (by decide) (by decide) (fun _ => rfl) (Below.refl _ _)⟩
    · intro D xs w1 hDk hwt hJ
      have ee : xs 3 = .agg #[.int .i64 r.1, .int .u32 r.2] := hJ.v 3 (hwt 3 (List.mem_of_elem_eq_true (by kernel_rfl))) (by decide)
      rw [ee]
      clear ee
      have ee : xs 4 = .agg #[.int .i64 u0.1, .int .u32 u0.2] := hJ.v 4 (hwt 4 (List.mem_of_elem_eq_true (by kernel_rfl))) (by decide)
      rw [ee]
      clear ee
      have hsz := hJ.m.size
      have hnb := heap_new w1 (.cells #[.int .i64 r.1, .int .u32 r.2, .int .i64 u0.1, .int .u32 u0.2] 30 (0, 0))
      have hbl1 : Below w1.heap.size w1 (w1.alloc (.cells #[.int .i64 r.1, .int .u32 r.2, .int .i64 u0.1, .int .u32 u0.2] 30 (0, 0))) := (Below.refl _ _).alloc (Nat.le_refl _) _
      have HJ := hid hJ
      have HWT := hid hwt
      have HD := hid hDk
      clear hDk hwt hJ
      go_wp2_with (fail)
      first | exact ⟨.slice (some ⟨w1.heap.size, 0, none⟩) 2 2, by kernel_rfl, fun q hq => by obtain rfl := hq rfl; exact NJ.call HOK.out HJ.out HD.out (by decide) (by decide) (by decide) (by decide) (by decide) (by decide) (⟨w1.heap.size, rfl, hsz, hnb⟩) (hbl1)⟩ | exact ⟨.slice (some ⟨w1.heap.size, 0, none⟩) 2 2, by kernel_rfl, NJ.call HOK.out HJ.out HD.out (by decide) (by decide) (by decide) (by decide) (by decide) (by decide) (⟨w1.heap.size, rfl, hsz, hnb⟩) (hbl1)⟩
    · intro D xs w1 hDk hwt hJ
      have ee : xs 2 = .pointer (some ⟨t, 0, none⟩) := hJ.v 2 (hwt 2 (List.mem_of_elem_eq_true (by kernel_rfl))) (by decide)
      rw [ee]
      clear ee
      obtain ⟨a1, e5, ha1, hr2⟩ := hJ.l 5 (by decide) (hwt 5 (List.mem_of_elem_eq_true (by kernel_rfl)))
      rw [e5]
      have hp := hJ.p
      rw [show D 6 = false from hDk] at hp
      simp only [cond_false] at hp
      have hga : a1 ≠ sg := by have := HLB.out; omega
      have HDI := hid (die_two hp HLR.out HLU2.out hr2 hga (cap := 2))
      have HA1 := hid (And.intro ha1 (And.intro hr2 hga))
      clear e5 ha1 hr2 hp hga
      have HJ := hid hJ
      have HWT := hid hwt
      have HD := hid hDk
      clear hDk hwt hJ
      go_wp2_with (go_at_call 44; refine HDI.out.mono ?_; rintro e w2 ⟨rfl, hT2, hM2⟩)
      first | exact ⟨.slice (some ⟨a1, 0, none⟩) 2 2, by kernel_rfl, fun q hq => by obtain rfl := hq rfl; exact NJ.turnF HOK.out HJ.out HD.out (by decide) (by decide) (by decide) (by decide) (by decide) (⟨a1, rfl, HA1.out.1, (hM2.block a1 (lt_of_block HA1.out.2.1) HA1.out.2.2).trans HA1.out.2.1⟩) (hT2) (hM2)⟩ | exact ⟨.slice (some ⟨a1, 0, none⟩) 2 2, by kernel_rfl, NJ.turnF HOK.out HJ.out HD.out (by decide) (by decide) (by decide) (by decide) (by decide) (⟨a1, rfl, HA1.out.1, (hM2.block a1 (lt_of_block HA1.out.2.1) HA1.out.2.2).trans HA1.out.2.1⟩) (hT2) (hM2)⟩
    · intro D xs w1 hDk hwt hJ
      obtain ⟨a1, e6, _⟩ := hJ.l 6 (by decide) (hwt 6 (List.mem_of_elem_eq_true (by kernel_rfl)))
      have hd6 : ∀ k, k ∈ ([6] : List Nat) → D k = true := fun k hk => by simp at hk; subst hk; exact hwt 6 (List.mem_of_elem_eq_true (by kernel_rfl))
      rw [e6]
      have H6 := hid e6
      clear e6
      have HJ := hid hJ
      have HWT := hid hwt
      have HD := hid hDk
      clear hDk hwt hJ
      go_wp2_with (fail)
      first | exact ⟨.slice (some ⟨a1, 0, none⟩) 2 2, by kernel_rfl, fun q hq => by obtain rfl := hq rfl; exact NJ.dep HOK.out HJ.out HD.out (by decide) (by decide) (by decide) (by decide) (by decide) (by decide) (hd6) (by rw [H6.out]) (Below.refl _ _)⟩ | exact ⟨.slice (some ⟨a1, 0, none⟩) 2 2, by kernel_rfl, NJ.dep HOK.out HJ.out HD.out (by decide) (by decide) (by decide) (by decide) (by decide) (by decide) (hd6) (by rw [H6.out]) (Below.refl _ _)⟩
    · intro D xs w1 hDk hwt hJ
      have HJ := hid hJ
      have HWT := hid hwt
      have HD := hid hDk
      clear hDk hwt hJ
      go_wp2_with (fail)
      first | exact ⟨.int .i64 0, by kernel_rfl, fun q hq => by obtain rfl := hq rfl; exact NJ.calm HOK.out HJ.out HD.out (by decide) (by decide) (by decide) (by decide) (by decide) (by decide) (fun _ => rfl) (Below.refl _ _)⟩ | exact ⟨.int .i64 0, by kernel_rfl, NJ.calm HOK.out HJ.out HD.out (by decide) (by decide) (by decide) (by decide) (by decide) (by decide) (fun _ => rfl) (Below.refl _ _)⟩
  intro D xs wC hD hJ
  have hp := hJ.p
  rw [hD 6 (by omega)] at hp
  simp only [cond_true] at hp
  obtain ⟨_, e7⟩ := hJ.e 7 (hD 7 (by omega)) (by decide)
  obtain ⟨a1, e6, ha1, hr2⟩ := hJ.l 6 (by decide) (hD 6 (by omega))
  have e8 : xs 8 = .int .i64 0 := hJ.v 8 (hD 8 (by omega)) (by decide)
  have e7 : xs 7 = .slice (some ⟨a1, 0, none⟩) 2 2 := by rw [e7, e6]
  have hM := hJ.m
  dsimp only [List.take, dsts, fill, List.drop]
  rw [e7, e8]
  have HE := hid (And.intro hp (And.intro ha1 (And.intro hr2 hM)))
  clear hD hJ hp e7 e6 e8 ha1 hr2 hM HOK
  go_wp2_with fail
  obtain ⟨hp, ha1, hr2, hM⟩ := HE.out
  refine bodyPost_ret (v := .tuple #[.slice (some ⟨a1, 0, none⟩) 2 2, .int .i64 0]) ?hr ?hd ?post
  case hr => kernel_rfl
  case hd => kernel_rfl
  case post =>
    exact ⟨a1, rfl, hr2, by have := HBA.out.size; have := HJB.out.m.size; omega, hp, ((Mod.ofBelow (S := (· = sg)) HBA.out).trans HJB.out.m (fun _ _ e => e)).trans hM (fun _ _ e => e)⟩
end Go.Proofs.YtnngicopphiaaaaGreatDoor.T
