/- Part 34 of 51 of a proof: lemmas on the functions that it reaches. -/
import Derived.Test.YtnngicopphiaaaaGreatDoorC32
import Derived.Maps.OwnOps
import Derived.Test.YtnngicopphiaaaaGreatDoorC26
namespace Go.Proofs.YtnngicopphiaaaaGreatDoor.T
set_option maxRecDepth 8000
open Go.ChangeShapes Go.WideShapes Go.ChangeAt Go.RowKit Go.Burg
open Go.Burg.Lk
theorem own_cap {w : World} {B : Nat} {e : TypeId} {s n m c : Nat} {a : Option Addr} {xs : List Value} (h : w.ownsRow B e s (.slice a m c) n xs) : n ≤ c := by
  obtain ⟨_, ⟨h1, h2⟩ | ⟨g, cap, cur, h1, _, _, h3⟩⟩ := h
  · omega
  · simp only [Value.slice.injEq] at h1
    obtain ⟨_, _, rfl⟩ := h1
    exact h3.1
def fnV (f : Nat) : Value := .func (.func f) #[] #[]
def asksF : List (Int × Nat) := setKV (setKV (setKV (setKV [] 1 46) 2 47) 3 48) 4 48
theorem plan_map (W : World) (m : Nat) (hm : W.heap.size = m) : ∃ W1 W2 W3 W4, (Instr.mapUpdate 94 (.map (some m)) (.int .i64 1) (.func (.func 46) #[] #[])).run Tryz.prog (W.alloc (.map #[] 0)) = .ok () W1 ∧ (Instr.mapUpdate 94 (.map (some m)) (.int .i64 2) (.func (.func 47) #[] #[])).run Tryz.prog W1 = .ok () W2 ∧
    (Instr.mapUpdate 94 (.map (some m)) (.int .i64 3) (.func (.func 48) #[] #[])).run Tryz.prog W2 = .ok () W3 ∧ (Instr.mapUpdate 94 (.map (some m)) (.int .i64 4) (.func (.func 48) #[] #[])).run Tryz.prog W3 = .ok () W4 ∧
    (Instr.lookup 94 (.map (some m)) (.int .i64 1) false).run Tryz.prog W4 = .ok (.func (.func 46) #[] #[]) W4 ∧ (Instr.lookup 94 (.map (some m)) (.int .i64 2) false).run Tryz.prog W4 = .ok (.func (.func 47) #[] #[]) W4 ∧
    (Instr.lookup 94 (.map (some m)) (.int .i64 3) false).run Tryz.prog W4 = .ok (.func (.func 48) #[] #[]) W4 ∧ (Instr.lookup 94 (.map (some m)) (.int .i64 4) false).run Tryz.prog W4 = .ok (.func (.func 48) #[] #[]) W4 ∧ Below W.heap.size W W4 := by
  subst hm
  have hM0 : MapOf (Value.int .i64) fnV (W.alloc (.map #[] 0)) W.heap.size [] := ⟨#[], 0, heap_new _ _, by simp, by simp, by simp⟩
  obtain ⟨W1, r1, M1, X1⟩ := hM0.store (P := Tryz.prog) (KeyOk.int Tryz.underlying77) Tryz.underlying94 1 46
  obtain ⟨W2, r2, M2, X2⟩ := M1.store (P := Tryz.prog) (KeyOk.int Tryz.underlying77) Tryz.underlying94 2 47
  obtain ⟨W3, r3, M3, X3⟩ := M2.store (P := Tryz.prog) (KeyOk.int Tryz.underlying77) Tryz.underlying94 3 48
  obtain ⟨W4, r4, M4, X4⟩ := M3.store (P := Tryz.prog) (KeyOk.int Tryz.underlying77) Tryz.underlying94 4 48
  have hz : ∀ w, (zeroValue 93).run Tryz.prog w = .ok .nilFunc w := fun _ => by kernel_rfl
  have hX := (((X1.trans X2 (fun _ _ h => h)).trans X3 (fun _ _ h => h)).trans X4 (fun _ _ h => h))
  refine ⟨W1, W2, W3, W4, r1, r2, r3, r4, M4.lookup (P := Tryz.prog) (KeyOk.int Tryz.underlying77) Tryz.underlying94 hz 1 false, M4.lookup (P := Tryz.prog) (KeyOk.int Tryz.underlying77) Tryz.underlying94 hz 2 false, M4.lookup (P := Tryz.prog) (KeyOk.int Tryz.underlying77) Tryz.underlying94 hz 3 false, M4.lookup (P := Tryz.prog) (KeyOk.int Tryz.underlying77) Tryz.underlying94 hz 4 false, ?_⟩
  exact ((Below.refl _ _).alloc (Nat.le_refl _) _).trans ⟨hX.os, hX.tape, hX.output, hX.size, fun k hk => hX.block k (by simp; omega) (by show ¬ _ = _; omega)⟩
set_option maxRecDepth 20000 in
set_option maxHeartbeats 4000000 in
theorem Plan_put1 {t sb sg kb km i : Nat} {l : List (Cel Nd)} {P : List (Cel PNd)} {L : List (RefK × Wd)} {tk : Int} {slot gen : Int} {c : ByteArray} {q : PNd} {s : SpotP} (w : World) (h : TreeAt w t sb sg kb km l L tk) (hR : Rel w l P) (hr : RoomsAt w) (hc : Coded c) (hq : LiveP P slot gen i q) (hp : q.planted = true) (hs : SeekW P c (slot, gen) 0 [] s) (hw : s.what = 1)
    (kk : Nat) (dies : List (Int × Int)) (room : Nat) (hask : ∀ w1 b g wc, Below w.heap.size w w1 → SpotAt w1 b g wc s → s.way.length ≤ wc → Calls Tryz.prog 46 #[.pointer (some ⟨t, 0, none⟩), .pointer (some ⟨b, 0, none⟩)] w1 fun e w' => ∃ da dc, e = .returned (.agg #[lastV s g wc kk, .slice da dies.length dc, .int .i64 room]) ∧ w'.ownsRow 0 30 2 (.slice da dies.length dc) dies.length (refsL dies) ∧ Below w1.heap.size w1 w') :
    Calls Tryz.prog 17 #[.pointer (some ⟨t, 0, none⟩), .agg #[.int .i64 slot, .int .u32 gen], .string c, .bool true] w fun e w' => ∃ g wc da dc, e = .returned (.tuple #[.agg #[lastV s g wc kk, .slice da dies.length dc, .int .i64 room], .int .i64 0]) ∧
      w'.ownsRow 0 30 2 (.slice (some ⟨g, 0, none⟩) s.way.length wc) s.way.length (refsL s.way) ∧ w'.ownsRow 0 30 2 (.slice da dies.length dc) dies.length (refsL dies) ∧ Below w.heap.size w w' := by
  have hs1 : (w.alloc (.cells #[.int .i64 slot, .int .u32 gen] 30 (0, 0))).heap.size = w.heap.size + 1 := by simp
  have b0 := blk_alloc (o' := (.cells #[.slice none 0 0, .slice none 0 0, .int .i64 0] 47 (0, 0))) (heap_new w (.cells #[.int .i64 slot, .int .u32 gen] 30 (0, 0)))
  have b1 := heap_new (w.alloc (.cells #[.int .i64 slot, .int .u32 gen] 30 (0, 0))) (.cells #[.slice none 0 0, .slice none 0 0, .int .i64 0] 47 (0, 0))
  rw [hs1] at b1
  have hB : Below w.heap.size w ((w.alloc (.cells #[.int .i64 slot, .int .u32 gen] 30 (0, 0))).alloc (.cells #[.slice none 0 0, .slice none 0 0, .int .i64 0] 47 (0, 0))) := ((Below.refl _ _).alloc (Nat.le_refl _) _).alloc (by simp) _
  have HSK := hid (Seek_at ((w.alloc (.cells #[.int .i64 slot, .int .u32 gen] 30 (0, 0))).alloc (.cells #[.slice none 0 0, .slice none 0 0, .int .i64 0] 47 (0, 0))) (h.keep hB) (hR.keep hB) (hr.keep hB) hc hq hp hs)
  have HWH := hid hw
  have HASK := hid hask
  have HS := hid hs
  have HWM : Hid (s.way.length ≤ 100) := hid (by have h1 := SeekW.way_le hs; have h2 := hc.size; simp only [List.length_nil] at h1; omega)
  clear h hR hr hc hq hp hs hw hask hs1
  go_enter Tryz.func17, Tryz.ntmps17
  have hmm := @run_makeMap Tryz.prog
  go_wp2_with (first | (go_at_call 36; refine HSK.out.mono ?_; rintro e w2 ⟨wa, wc, rfl, how, hb2⟩; go_loud (rw [HWH.out]; obtain ⟨g, rfl, lg, _⟩ := O.own_cells (own_le how (Nat.zero_le _)) (SeekW.way_pos HS.out); obtain ⟨W1, W2, W3, W4, r1, r2, r3, r4, L1, L2, L3, L4, hbX⟩ := plan_map (w2.alloc (.cells #[.int .i64 1, .slice (some ⟨g, 0, none⟩) s.way.length wc, .int .i64 s.at_, .int .i64 s.depth] 79 (0, 0))) (w2.heap.size + 1) (by simp); have hsp0 := heap_new w2 (.cells #[.int .i64 1, .slice (some ⟨g, 0, none⟩) s.way.length wc, .int .i64 s.at_, .int .i64 s.depth] 79 (0, 0)); have hb24 : Below w2.heap.size w2 W4 := ((Below.refl _ _).alloc (Nat.le_refl _) _).trans (hbX.mono (by simp)); have hsp := (hbX.block _ (lt_of_block hsp0)).trans hsp0; have how4 := O.own_mod how (O.mod_of_below (S := fun _ => False) hb24) (fun _ _ h => h); have hSA : SpotAt W4 w2.heap.size g wc s := ⟨(by rw [HWH.out]; exact hsp), own_le how4 (Nat.zero_le _), SeekW.way_pos HS.out, HWM.out⟩; have q0 := cell_of hsp 0; have hbw2 := hB.trans (hb2.mono hB.size); have hbw4 := hbw2.trans (hb24.mono hbw2.size); have h12 := (hb2.block _ (lt_of_block b1)).trans b1; have HA := hid (HASK.out W4 w2.heap.size g wc hbw4 hSA (own_cap how)); have HOW := hid hSA.o; have H1 := hid ((hb24.block _ (lt_of_block h12)).trans h12); have HB4 := hid hbw4; clear how hb2 lg hbX hsp0 hb24 hsp how4 hSA hbw2 hbw4 h12)) | (go_at_call 46; refine HA.out.mono ?_; rintro e w5 ⟨da, dc, rfl, hod, hb5⟩; go_loud (unfold lastV; have h1 := (hb5.block _ (lt_of_block H1.out)).trans H1.out; have p0 := cell_of h1 0; have p1 := cell_of h1 1; have p2 := cell_of h1 2; have pf := free_of h1; have H15 := hid h1; have HOD := hid hod; have HOW5 := hid (O.own_mod HOW.out (O.mod_of_below (S := fun _ => False) hb5) (fun _ _ h => h)); have HB5 := hid (HB4.out.trans (hb5.mono HB4.out.size)); clear h1 hod hb5)))
  obtain ⟨m1, m2⟩ := set3_at (lastV s g wc kk) (.slice da dies.length dc) (.int .i64 room) H15.out
  have e0 := lt_of_block H15.out
  obtain ⟨fs, hus⟩ : ∃ fs, Tryz.prog.underlying 47 = some (.struct fs) := ⟨_, rfl⟩
  have hR := fun tm hp => results_ct (P := Tryz.prog) (fn := Tryz.f17) (p := 8) (u := 9) (ty := 47) (by kernel_rfl) tm _ (w.heap.size + 1) _ _ _ _ hp m1 hus rfl (by kernel_rfl)
  unfold lastV at hR m1 m2
  refine bodyPost_ret (hR _ ?hp) ?hd ?post
  case hp => rfl
  case hd => rfl
  case post =>
    refine ⟨g, wc, da, dc, rfl, ?_, ?_, below_mods HB5.out m2 (by omega) (by omega)⟩
    · exact O.own_mod HOW5.out m2 (O.own_off HOW5.out H15.out (by decide))
    · exact O.own_mod HOD.out m2 (O.own_off HOD.out H15.out (by decide))
set_option maxRecDepth 20000 in
set_option maxHeartbeats 4000000 in
theorem Plan_put2 {t sb sg kb km i : Nat} {l : List (Cel Nd)} {P : List (Cel PNd)} {L : List (RefK × Wd)} {tk : Int} {slot gen : Int} {c : ByteArray} {q : PNd} {s : SpotP} (w : World) (h : TreeAt w t sb sg kb km l L tk) (hR : Rel w l P) (hr : RoomsAt w) (hc : Coded c) (hq : LiveP P slot gen i q) (hp : q.planted = true) (hs : SeekW P c (slot, gen) 0 [] s) (hw : s.what = 2)
    (kk : Nat) (dies : List (Int × Int)) (room : Nat) (hask : ∀ w1 b g wc, Below w.heap.size w w1 → SpotAt w1 b g wc s → s.way.length ≤ wc → Calls Tryz.prog 47 #[.pointer (some ⟨t, 0, none⟩), .pointer (some ⟨b, 0, none⟩)] w1 fun e w' => ∃ da dc, e = .returned (.agg #[lastV s g wc kk, .slice da dies.length dc, .int .i64 room]) ∧ w'.ownsRow 0 30 2 (.slice da dies.length dc) dies.length (refsL dies) ∧ Below w1.heap.size w1 w') :
    Calls Tryz.prog 17 #[.pointer (some ⟨t, 0, none⟩), .agg #[.int .i64 slot, .int .u32 gen], .string c, .bool true] w fun e w' => ∃ g wc da dc, e = .returned (.tuple #[.agg #[lastV s g wc kk, .slice da dies.length dc, .int .i64 room], .int .i64 0]) ∧
      w'.ownsRow 0 30 2 (.slice (some ⟨g, 0, none⟩) s.way.length wc) s.way.length (refsL s.way) ∧ w'.ownsRow 0 30 2 (.slice da dies.length dc) dies.length (refsL dies) ∧ Below w.heap.size w w' := by
  have hs1 : (w.alloc (.cells #[.int .i64 slot, .int .u32 gen] 30 (0, 0))).heap.size = w.heap.size + 1 := by simp
  have b0 := blk_alloc (o' := (.cells #[.slice none 0 0, .slice none 0 0, .int .i64 0] 47 (0, 0))) (heap_new w (.cells #[.int .i64 slot, .int .u32 gen] 30 (0, 0)))
  have b1 := heap_new (w.alloc (.cells #[.int .i64 slot, .int .u32 gen] 30 (0, 0))) (.cells #[.slice none 0 0, .slice none 0 0, .int .i64 0] 47 (0, 0))
  rw [hs1] at b1
  have hB : Below w.heap.size w ((w.alloc (.cells #[.int .i64 slot, .int .u32 gen] 30 (0, 0))).alloc (.cells #[.slice none 0 0, .slice none 0 0, .int .i64 0] 47 (0, 0))) := ((Below.refl _ _).alloc (Nat.le_refl _) _).alloc (by simp) _
  have HSK := hid (Seek_at ((w.alloc (.cells #[.int .i64 slot, .int .u32 gen] 30 (0, 0))).alloc (.cells #[.slice none 0 0, .slice none 0 0, .int .i64 0] 47 (0, 0))) (h.keep hB) (hR.keep hB) (hr.keep hB) hc hq hp hs)
  have HWH := hid hw
  have HASK := hid hask
  have HS := hid hs
  have HWM : Hid (s.way.length ≤ 100) := hid (by have h1 := SeekW.way_le hs; have h2 := hc.size; simp only [List.length_nil] at h1; omega)
  clear h hR hr hc hq hp hs hw hask hs1
  go_enter Tryz.func17, Tryz.ntmps17
  have hmm := @run_makeMap Tryz.prog
  go_wp2_with (first | (go_at_call 36; refine HSK.out.mono ?_; rintro e w2 ⟨wa, wc, rfl, how, hb2⟩; go_loud (rw [HWH.out]; obtain ⟨g, rfl, lg, _⟩ := O.own_cells (own_le how (Nat.zero_le _)) (SeekW.way_pos HS.out); obtain ⟨W1, W2, W3, W4, r1, r2, r3, r4, L1, L2, L3, L4, hbX⟩ := plan_map (w2.alloc (.cells #[.int .i64 2, .slice (some ⟨g, 0, none⟩) s.way.length wc, .int .i64 s.at_, .int .i64 s.depth] 79 (0, 0))) (w2.heap.size + 1) (by simp); have hsp0 := heap_new w2 (.cells #[.int .i64 2, .slice (some ⟨g, 0, none⟩) s.way.length wc, .int .i64 s.at_, .int .i64 s.depth] 79 (0, 0)); have hb24 : Below w2.heap.size w2 W4 := ((Below.refl _ _).alloc (Nat.le_refl _) _).trans (hbX.mono (by simp)); have hsp := (hbX.block _ (lt_of_block hsp0)).trans hsp0; have how4 := O.own_mod how (O.mod_of_below (S := fun _ => False) hb24) (fun _ _ h => h); have hSA : SpotAt W4 w2.heap.size g wc s := ⟨(by rw [HWH.out]; exact hsp), own_le how4 (Nat.zero_le _), SeekW.way_pos HS.out, HWM.out⟩; have q0 := cell_of hsp 0; have hbw2 := hB.trans (hb2.mono hB.size); have hbw4 := hbw2.trans (hb24.mono hbw2.size); have h12 := (hb2.block _ (lt_of_block b1)).trans b1; have HA := hid (HASK.out W4 w2.heap.size g wc hbw4 hSA (own_cap how)); have HOW := hid hSA.o; have H1 := hid ((hb24.block _ (lt_of_block h12)).trans h12); have HB4 := hid hbw4; clear how hb2 lg hbX hsp0 hb24 hsp how4 hSA hbw2 hbw4 h12)) | (go_at_call 47; refine HA.out.mono ?_; rintro e w5 ⟨da, dc, rfl, hod, hb5⟩; go_loud (unfold lastV; have h1 := (hb5.block _ (lt_of_block H1.out)).trans H1.out; have p0 := cell_of h1 0; have p1 := cell_of h1 1; have p2 := cell_of h1 2; have pf := free_of h1; have H15 := hid h1; have HOD := hid hod; have HOW5 := hid (O.own_mod HOW.out (O.mod_of_below (S := fun _ => False) hb5) (fun _ _ h => h)); have HB5 := hid (HB4.out.trans (hb5.mono HB4.out.size)); clear h1 hod hb5)))
  obtain ⟨m1, m2⟩ := set3_at (lastV s g wc kk) (.slice da dies.length dc) (.int .i64 room) H15.out
  have e0 := lt_of_block H15.out
  obtain ⟨fs, hus⟩ : ∃ fs, Tryz.prog.underlying 47 = some (.struct fs) := ⟨_, rfl⟩
  have hR := fun tm hp => results_ct (P := Tryz.prog) (fn := Tryz.f17) (p := 8) (u := 9) (ty := 47) (by kernel_rfl) tm _ (w.heap.size + 1) _ _ _ _ hp m1 hus rfl (by kernel_rfl)
  unfold lastV at hR m1 m2
  refine bodyPost_ret (hR _ ?hp) ?hd ?post
  case hp => rfl
  case hd => rfl
  case post =>
    refine ⟨g, wc, da, dc, rfl, ?_, ?_, below_mods HB5.out m2 (by omega) (by omega)⟩
    · exact O.own_mod HOW5.out m2 (O.own_off HOW5.out H15.out (by decide))
    · exact O.own_mod HOD.out m2 (O.own_off HOD.out H15.out (by decide))
set_option maxRecDepth 20000 in
set_option maxHeartbeats 4000000 in
theorem Plan_put3 {t sb sg kb km i : Nat} {l : List (Cel Nd)} {P : List (Cel PNd)} {L : List (RefK × Wd)} {tk : Int} {slot gen : Int} {c : ByteArray} {q : PNd} {s : SpotP} (w : World) (h : TreeAt w t sb sg kb km l L tk) (hR : Rel w l P) (hr : RoomsAt w) (hc : Coded c) (hq : LiveP P slot gen i q) (hp : q.planted = true) (hs : SeekW P c (slot, gen) 0 [] s) (hw : s.what = 3)
    (kk : Nat) (dies : List (Int × Int)) (room : Nat) (hask : ∀ w1 b g wc, Below w.heap.size w w1 → SpotAt w1 b g wc s → s.way.length ≤ wc → Calls Tryz.prog 48 #[.pointer (some ⟨t, 0, none⟩), .pointer (some ⟨b, 0, none⟩)] w1 fun e w' => ∃ da dc, e = .returned (.agg #[lastV s g wc kk, .slice da dies.length dc, .int .i64 room]) ∧ w'.ownsRow 0 30 2 (.slice da dies.length dc) dies.length (refsL dies) ∧ Below w1.heap.size w1 w') :
    Calls Tryz.prog 17 #[.pointer (some ⟨t, 0, none⟩), .agg #[.int .i64 slot, .int .u32 gen], .string c, .bool true] w fun e w' => ∃ g wc da dc, e = .returned (.tuple #[.agg #[lastV s g wc kk, .slice da dies.length dc, .int .i64 room], .int .i64 0]) ∧
      w'.ownsRow 0 30 2 (.slice (some ⟨g, 0, none⟩) s.way.length wc) s.way.length (refsL s.way) ∧ w'.ownsRow 0 30 2 (.slice da dies.length dc) dies.length (refsL dies) ∧ Below w.heap.size w w' := by
  have hs1 : (w.alloc (.cells #[.int .i64 slot, .int .u32 gen] 30 (0, 0))).heap.size = w.heap.size + 1 := by simp
  have b0 := blk_alloc (o' := (.cells #[.slice none 0 0, .slice none 0 0, .int .i64 0] 47 (0, 0))) (heap_new w (.cells #[.int .i64 slot, .int .u32 gen] 30 (0, 0)))
  have b1 := heap_new (w.alloc (.cells #[.int .i64 slot, .int .u32 gen] 30 (0, 0))) (.cells #[.slice none 0 0, .slice none 0 0, .int .i64 0] 47 (0, 0))
  rw [hs1] at b1
  have hB : Below w.heap.size w ((w.alloc (.cells #[.int .i64 slot, .int .u32 gen] 30 (0, 0))).alloc (.cells #[.slice none 0 0, .slice none 0 0, .int .i64 0] 47 (0, 0))) := ((Below.refl _ _).alloc (Nat.le_refl _) _).alloc (by simp) _
  have HSK := hid (Seek_at ((w.alloc (.cells #[.int .i64 slot, .int .u32 gen] 30 (0, 0))).alloc (.cells #[.slice none 0 0, .slice none 0 0, .int .i64 0] 47 (0, 0))) (h.keep hB) (hR.keep hB) (hr.keep hB) hc hq hp hs)
  have HWH := hid hw
  have HASK := hid hask
  have HS := hid hs
  have HWM : Hid (s.way.length ≤ 100) := hid (by have h1 := SeekW.way_le hs; have h2 := hc.size; simp only [List.length_nil] at h1; omega)
  clear h hR hr hc hq hp hs hw hask hs1
  go_enter Tryz.func17, Tryz.ntmps17
  have hmm := @run_makeMap Tryz.prog
  go_wp2_with (first | (go_at_call 36; refine HSK.out.mono ?_; rintro e w2 ⟨wa, wc, rfl, how, hb2⟩; go_loud (rw [HWH.out]; obtain ⟨g, rfl, lg, _⟩ := O.own_cells (own_le how (Nat.zero_le _)) (SeekW.way_pos HS.out); obtain ⟨W1, W2, W3, W4, r1, r2, r3, r4, L1, L2, L3, L4, hbX⟩ := plan_map (w2.alloc (.cells #[.int .i64 3, .slice (some ⟨g, 0, none⟩) s.way.length wc, .int .i64 s.at_, .int .i64 s.depth] 79 (0, 0))) (w2.heap.size + 1) (by simp); have hsp0 := heap_new w2 (.cells #[.int .i64 3, .slice (some ⟨g, 0, none⟩) s.way.length wc, .int .i64 s.at_, .int .i64 s.depth] 79 (0, 0)); have hb24 : Below w2.heap.size w2 W4 := ((Below.refl _ _).alloc (Nat.le_refl _) _).trans (hbX.mono (by simp)); have hsp := (hbX.block _ (lt_of_block hsp0)).trans hsp0; have how4 := O.own_mod how (O.mod_of_below (S := fun _ => False) hb24) (fun _ _ h => h); have hSA : SpotAt W4 w2.heap.size g wc s := ⟨(by rw [HWH.out]; exact hsp), own_le how4 (Nat.zero_le _), SeekW.way_pos HS.out, HWM.out⟩; have q0 := cell_of hsp 0; have hbw2 := hB.trans (hb2.mono hB.size); have hbw4 := hbw2.trans (hb24.mono hbw2.size); have h12 := (hb2.block _ (lt_of_block b1)).trans b1; have HA := hid (HASK.out W4 w2.heap.size g wc hbw4 hSA (own_cap how)); have HOW := hid hSA.o; have H1 := hid ((hb24.block _ (lt_of_block h12)).trans h12); have HB4 := hid hbw4; clear how hb2 lg hbX hsp0 hb24 hsp how4 hSA hbw2 hbw4 h12)) | (go_at_call 48; refine HA.out.mono ?_; rintro e w5 ⟨da, dc, rfl, hod, hb5⟩; go_loud (unfold lastV; have h1 := (hb5.block _ (lt_of_block H1.out)).trans H1.out; have p0 := cell_of h1 0; have p1 := cell_of h1 1; have p2 := cell_of h1 2; have pf := free_of h1; have H15 := hid h1; have HOD := hid hod; have HOW5 := hid (O.own_mod HOW.out (O.mod_of_below (S := fun _ => False) hb5) (fun _ _ h => h)); have HB5 := hid (HB4.out.trans (hb5.mono HB4.out.size)); clear h1 hod hb5)))
  obtain ⟨m1, m2⟩ := set3_at (lastV s g wc kk) (.slice da dies.length dc) (.int .i64 room) H15.out
  have e0 := lt_of_block H15.out
  obtain ⟨fs, hus⟩ : ∃ fs, Tryz.prog.underlying 47 = some (.struct fs) := ⟨_, rfl⟩
  have hR := fun tm hp => results_ct (P := Tryz.prog) (fn := Tryz.f17) (p := 8) (u := 9) (ty := 47) (by kernel_rfl) tm _ (w.heap.size + 1) _ _ _ _ hp m1 hus rfl (by kernel_rfl)
  unfold lastV at hR m1 m2
  refine bodyPost_ret (hR _ ?hp) ?hd ?post
  case hp => rfl
  case hd => rfl
  case post =>
    refine ⟨g, wc, da, dc, rfl, ?_, ?_, below_mods HB5.out m2 (by omega) (by omega)⟩
    · exact O.own_mod HOW5.out m2 (O.own_off HOW5.out H15.out (by decide))
    · exact O.own_mod HOD.out m2 (O.own_off HOD.out H15.out (by decide))
set_option maxRecDepth 20000 in
set_option maxHeartbeats 4000000 in
theorem Plan_put4 {t sb sg kb km i : Nat} {l : List (Cel Nd)} {P : List (Cel PNd)} {L : List (RefK × Wd)} {tk : Int} {slot gen : Int} {c : ByteArray} {q : PNd} {s : SpotP} (w : World) (h : TreeAt w t sb sg kb km l L tk) (hR : Rel w l P) (hr : RoomsAt w) (hc : Coded c) (hq : LiveP P slot gen i q) (hp : q.planted = true) (hs : SeekW P c (slot, gen) 0 [] s) (hw : s.what = 4)
    (kk : Nat) (dies : List (Int × Int)) (room : Nat) (hask : ∀ w1 b g wc, Below w.heap.size w w1 → SpotAt w1 b g wc s → s.way.length ≤ wc → Calls Tryz.prog 48 #[.pointer (some ⟨t, 0, none⟩), .pointer (some ⟨b, 0, none⟩)] w1 fun e w' => ∃ da dc, e = .returned (.agg #[lastV s g wc kk, .slice da dies.length dc, .int .i64 room]) ∧ w'.ownsRow 0 30 2 (.slice da dies.length dc) dies.length (refsL dies) ∧ Below w1.heap.size w1 w') :
    Calls Tryz.prog 17 #[.pointer (some ⟨t, 0, none⟩), .agg #[.int .i64 slot, .int .u32 gen], .string c, .bool true] w fun e w' => ∃ g wc da dc, e = .returned (.tuple #[.agg #[lastV s g wc kk, .slice da dies.length dc, .int .i64 room], .int .i64 0]) ∧
      w'.ownsRow 0 30 2 (.slice (some ⟨g, 0, none⟩) s.way.length wc) s.way.length (refsL s.way) ∧ w'.ownsRow 0 30 2 (.slice da dies.length dc) dies.length (refsL dies) ∧ Below w.heap.size w w' := by
  have hs1 : (w.alloc (.cells #[.int .i64 slot, .int .u32 gen] 30 (0, 0))).heap.size = w.heap.size + 1 := by simp
  have b0 := blk_alloc (o' := (.cells #[.slice none 0 0, .slice none 0 0, .int .i64 0] 47 (0, 0))) (heap_new w (.cells #[.int .i64 slot, .int .u32 gen] 30 (0, 0)))
  have b1 := heap_new (w.alloc (.cells #[.int .i64 slot, .int .u32 gen] 30 (0, 0))) (.cells #[.slice none 0 0, .slice none 0 0, .int .i64 0] 47 (0, 0))
  rw [hs1] at b1
  have hB : Below w.heap.size w ((w.alloc (.cells #[.int .i64 slot, .int .u32 gen] 30 (0, 0))).alloc (.cells #[.slice none 0 0, .slice none 0 0, .int .i64 0] 47 (0, 0))) := ((Below.refl _ _).alloc (Nat.le_refl _) _).alloc (by simp) _
  have HSK := hid (Seek_at ((w.alloc (.cells #[.int .i64 slot, .int .u32 gen] 30 (0, 0))).alloc (.cells #[.slice none 0 0, .slice none 0 0, .int .i64 0] 47 (0, 0))) (h.keep hB) (hR.keep hB) (hr.keep hB) hc hq hp hs)
  have HWH := hid hw
  have HASK := hid hask
  have HS := hid hs
  have HWM : Hid (s.way.length ≤ 100) := hid (by have h1 := SeekW.way_le hs; have h2 := hc.size; simp only [List.length_nil] at h1; omega)
  clear h hR hr hc hq hp hs hw hask hs1
  go_enter Tryz.func17, Tryz.ntmps17
  have hmm := @run_makeMap Tryz.prog
  go_wp2_with (first | (go_at_call 36; refine HSK.out.mono ?_; rintro e w2 ⟨wa, wc, rfl, how, hb2⟩; go_loud (rw [HWH.out]; obtain ⟨g, rfl, lg, _⟩ := O.own_cells (own_le how (Nat.zero_le _)) (SeekW.way_pos HS.out); obtain ⟨W1, W2, W3, W4, r1, r2, r3, r4, L1, L2, L3, L4, hbX⟩ := plan_map (w2.alloc (.cells #[.int .i64 4, .slice (some ⟨g, 0, none⟩) s.way.length wc, .int .i64 s.at_, .int .i64 s.depth] 79 (0, 0))) (w2.heap.size + 1) (by simp); have hsp0 := heap_new w2 (.cells #[.int .i64 4, .slice (some ⟨g, 0, none⟩) s.way.length wc, .int .i64 s.at_, .int .i64 s.depth] 79 (0, 0)); have hb24 : Below w2.heap.size w2 W4 := ((Below.refl _ _).alloc (Nat.le_refl _) _).trans (hbX.mono (by simp)); have hsp := (hbX.block _ (lt_of_block hsp0)).trans hsp0; have how4 := O.own_mod how (O.mod_of_below (S := fun _ => False) hb24) (fun _ _ h => h); have hSA : SpotAt W4 w2.heap.size g wc s := ⟨(by rw [HWH.out]; exact hsp), own_le how4 (Nat.zero_le _), SeekW.way_pos HS.out, HWM.out⟩; have q0 := cell_of hsp 0; have hbw2 := hB.trans (hb2.mono hB.size); have hbw4 := hbw2.trans (hb24.mono hbw2.size); have h12 := (hb2.block _ (lt_of_block b1)).trans b1; have HA := hid (HASK.out W4 w2.heap.size g wc hbw4 hSA (own_cap how)); have HOW := hid hSA.o; have H1 := hid ((hb24.block _ (lt_of_block h12)).trans h12); have HB4 := hid hbw4; clear how hb2 lg hbX hsp0 hb24 hsp how4 hSA hbw2 hbw4 h12)) | (go_at_call 48; refine HA.out.mono ?_; rintro e w5 ⟨da, dc, rfl, hod, hb5⟩; go_loud (unfold lastV; have h1 := (hb5.block _ (lt_of_block H1.out)).trans H1.out; have p0 := cell_of h1 0; have p1 := cell_of h1 1; have p2 := cell_of h1 2; have pf := free_of h1; have H15 := hid h1; have HOD := hid hod; have HOW5 := hid (O.own_mod HOW.out (O.mod_of_below (S := fun _ => False) hb5) (fun _ _ h => h)); have HB5 := hid (HB4.out.trans (hb5.mono HB4.out.size)); clear h1 hod hb5)))
  obtain ⟨m1, m2⟩ := set3_at (lastV s g wc kk) (.slice da dies.length dc) (.int .i64 room) H15.out
  have e0 := lt_of_block H15.out
  obtain ⟨fs, hus⟩ : ∃ fs, Tryz.prog.underlying 47 = some (.struct fs) := ⟨_, rfl⟩
  have hR := fun tm hp => results_ct (P := Tryz.prog) (fn := Tryz.f17) (p := 8) (u := 9) (ty := 47) (by kernel_rfl) tm _ (w.heap.size + 1) _ _ _ _ hp m1 hus rfl (by kernel_rfl)
  unfold lastV at hR m1 m2
  refine bodyPost_ret (hR _ ?hp) ?hd ?post
  case hp => rfl
  case hd => rfl
  case post =>
    refine ⟨g, wc, da, dc, rfl, ?_, ?_, below_mods HB5.out m2 (by omega) (by omega)⟩
    · exact O.own_mod HOW5.out m2 (O.own_off HOW5.out H15.out (by decide))
    · exact O.own_mod HOD.out m2 (O.own_off HOD.out H15.out (by decide))
end Go.Proofs.YtnngicopphiaaaaGreatDoor.T

namespace Go.Burg
open Go
def roomN {α : Type} (l : List (Cel α)) : Nat := (l.filter Cel.room).length
theorem roomN_step {α : Type} {l : List (Cel α)} {k : Nat} {c : Cel α} (h : l[k]? = some c) : roomN (l.take (k + 1)) = roomN (l.take k) + (if c.room = true then 1 else 0) := by
  unfold roomN
  rw [List.take_add_one, h]
  simp only [Option.toList_some, List.filter_append, List.length_append]
  cases hr : c.room <;> simp [hr]
theorem roomN_le {α : Type} (l : List (Cel α)) : roomN l ≤ l.length := List.length_filter_le _ _
theorem roomN_pos {α : Type} {l : List (Cel α)} {j : Nat} (h : First l (j : Int)) : 1 ≤ roomN l := by
  rcases h with ⟨k, c, _, h1, h2, _⟩ | ⟨h, _⟩
  · have : c ∈ l.filter Cel.room := List.mem_filter.2 ⟨List.mem_of_getElem? h1, h2⟩
    exact List.length_pos_of_mem this
  · omega
end Go.Burg
namespace Go.Proofs.YtnngicopphiaaaaGreatDoor.S
set_option maxRecDepth 8000
open Go.ChangeShapes Go.WideShapes Go.ChangeAt Go.RowKit Go.Burg
set_option maxHeartbeats 2000000 in
theorem count_any {b g : Nat} {l : List (Cel Nd)} (w : World) (h : SlabN 124 106 w b g l) :
    Calls Tryz.prog 71 #[.pointer (some ⟨b, 0, none⟩), .func (.func 72) #[] #[]] w fun e w' => e = .returned (.int .i64 (roomN l)) ∧ Below w.heap.size w w' := by
  obtain ⟨c0, f0⟩ := h.head
  have hn := h.top
  have hgl := h.glt
  have HC := hid h.hc
  clear h
  go_enter Tryz.func71, Tryz.ntmps71
  go_wp2_with fail
  clear c0 f0
  go_loopw [4, 12] (fun cv iv wr => ∃ k : Nat, k ≤ l.length ∧ iv = .int .i64 k ∧ cv = .int .i64 (roomN (l.take k)) ∧ Below w.heap.size w wr) (fun _ iv _ => l.length - (intOf iv).toNat)
  case atStart => exact ⟨0, Nat.zero_le _, rfl, rfl, Below.refl _ _⟩
  case round =>
    obtain ⟨k, hk, rfl, rfl, hB⟩ := hrel
    have HB := hid hB
    have hrl := roomN_le (l.take k)
    rw [List.length_take] at hrl
    by_cases hlt : k < l.length
    · obtain ⟨⟨c0, c1, c2, c3, c4, c5, c6, c7, c8, c9⟩, cf, g1, g2⟩ := (HC.out.same (hB.block g hgl)).cell (List.getElem?_eq_getElem hlt)
      have HI := hid (List.getElem?_eq_getElem hlt)
      generalize l[k] = c at c0 c1 c2 c3 c4 c5 c6 c7 c8 c9 g1 g2 HI
      obtain ⟨is, ⟨kn, cd, vl, pt, ⟨ya, yn, yc⟩, ⟨za, zn, zc⟩, pl, di⟩, gen⟩ := c
      simp only at c0 c1 c2 c3 c4 c5 c6 c7 c8 c9 g1 g2
      have hd : decide (l.length ≤ k) = false := by simp; exact hlt
      clear hB
      have HR := hid (fun w => room_any is kn cd vl pt ⟨ya, yn, yc⟩ ⟨za, zn, zc⟩ pl di gen w)
      have hro : (⟨is, ⟨kn, cd, vl, pt, ⟨ya, yn, yc⟩, ⟨za, zn, zc⟩, pl, di⟩, gen⟩ : Cel Nd).room = (!is && decide (gen < 4294967295)) := rfl
      generalize (!is && decide (gen < 4294967295)) = rm at HR hro
      have HRO := hid hro
      clear hro
      cases rm
      · go_wp2_with (go_at_call 72; refine (HR.out _).mono ?_; rintro e w2 ⟨rfl, hB2⟩; have HB2 := hid hB2; clear hB2)
        have hst := roomN_step HI.out
        rw [HRO.out] at hst
        refine ⟨⟨k + 1, by omega, by go_num, by rw [hst]; simp, ?_⟩, by simp [intOf]; omega⟩
        exact HB.out.trans ((((Below.refl _ _).alloc (Nat.le_refl _) _).trans (HB2.out.mono (by simp))).mono HB.out.size)
      · go_wp2_with (go_at_call 72; refine (HR.out _).mono ?_; rintro e w2 ⟨rfl, hB2⟩; have HB2 := hid hB2; clear hB2)
        have hst := roomN_step HI.out
        rw [HRO.out] at hst
        refine ⟨⟨k + 1, by omega, by go_num, by rw [hst]; simp, ?_⟩, by simp [intOf]; omega⟩
        exact HB.out.trans ((((Below.refl _ _).alloc (Nat.le_refl _) _).trans (HB2.out.mono (by simp))).mono HB.out.size)
    · obtain rfl : k = l.length := by omega
      have hd : decide (l.length ≤ l.length) = true := by simp
      go_wp2_with fail
      go_ret
      rw [List.take_length]
      exact ⟨rfl, HB.out⟩
theorem left_any {b g : Nat} {l : List (Cel Nd)} (w : World) (h : SlabN 124 106 w b g l) : Calls Tryz.prog 35 #[.pointer (some ⟨b, 0, none⟩)] w fun e w' => e = .returned (.int .i64 (roomN l)) ∧ Below w.heap.size w w' := by
  have H := hid h
  have HT := hid (there_any w h)
  clear h
  go_enter Tryz.func35, Tryz.ntmps35
  go_wp2_with (first | (go_at_call 66; refine HT.out.mono ?_; rintro e w2 ⟨rfl, hb2⟩; go_loud (have HC := hid (count_any w2 (H.out.keep hb2)); have HB2 := hid hb2; clear hb2)) | (go_at_call 71; refine HC.out.mono ?_; rintro e w3 ⟨rfl, hb3⟩; have HB3 := hid hb3; clear hb3))
  go_ret
  exact ⟨rfl, HB2.out.trans (HB3.out.mono HB2.out.size)⟩
end Go.Proofs.YtnngicopphiaaaaGreatDoor.S
