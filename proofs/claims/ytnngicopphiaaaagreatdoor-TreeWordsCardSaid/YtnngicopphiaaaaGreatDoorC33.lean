/- Part 33 of 51 of a proof: lemmas on the functions that it reaches. -/
import Derived.Test.YtnngicopphiaaaaGreatDoorC32
import Derived.Test.YtnngicopphiaaaaGreatDoorC19
import Derived.Laws.ResultCell
namespace Go.Proofs.YtnngicopphiaaaaGreatDoor.T
set_option maxRecDepth 8000
open Go.ChangeShapes Go.WideShapes Go.ChangeAt Go.RowKit Go.Burg
open Go.Burg.Lk
def NoB (a : Option Addr) (v : Nat) : Prop := ∀ n c k, (Value.slice a n c).ownBlock = some k → k ≠ v
def TurnF (k : Nat) (pt : ByteArray) (n v : Nat) (L : List Kd) (w1 : World) (x : Value) : Prop :=
  ∃ ya yc za zc, x = .tuple #[.agg #[.int .i64 k, .string ⟨#[]⟩, .string ⟨#[]⟩, .string pt, .slice ya n yc, .slice za n zc], .int .i64 0] ∧ O.NodeIn w1 k pt ya n yc za n zc L ∧ NoB ya v ∧ NoB za v
theorem turnF_keeps {k : Nat} {pt : ByteArray} {n v : Nat} {L : List Kd} : GKeeps (TurnF k pt n v L) v := by
  rintro wa wb x ⟨ya, yc, za, zc, e, h, h1, h2⟩ hM
  exact ⟨ya, yc, za, zc, e, ⟨O.own_mod h.b hM (fun j hj e => h1 _ _ j hj e), O.own_mod h.z hM (fun j hj e => h2 _ _ j hj e), h.k1, h.k2, h.p, h.len, h.rise, h.ok⟩, h1, h2⟩
theorem turnF_of {k : Nat} {pt : ByteArray} {n v : Nat} {L : List Kd} {w1 : World} {ya za : Option Addr} {yc zc : Nat} {cs : Array Value} (h : O.NodeIn w1 k pt ya n yc za n zc L) (hv : w1.heap[v]? = some (.cells cs 53 (0, 0))) : TurnF k pt n v L w1 (.tuple #[.agg #[.int .i64 k, .string ⟨#[]⟩, .string ⟨#[]⟩, .string pt, .slice ya n yc, .slice za n zc], .int .i64 0]) := by
  refine ⟨ya, yc, za, zc, rfl, h, fun a b j hj => ?_, fun a b j hj => ?_⟩
  · exact O.own_off h.b hv (by decide) j (by
      cases ya with
      | none => simp [Value.ownBlock] at hj
      | some q => simpa [Value.ownBlock] using hj)
  · exact O.own_off h.z hv (by decide) j (by
      cases za with
      | none => simp [Value.ownBlock] at hj
      | some q => simpa [Value.ownBlock] using hj)
def tupAt (x : Value) (i : Nat) : Value := match x with
  | .tuple vs => vs.getD i undef
  | _ => undef
def tdT (j : Nat) (x : Value) : Value := match j with
  | 9 => tupAt x 0
  | 10 => tupAt x 1
  | _ => x
set_option maxRecDepth 20000 in
set_option maxHeartbeats 4000000 in
theorem kid_at {t sb sg kb km i jj k : Nat} {l : List (Cel Nd)} {L : List (RefK × Wd)} {tk : Int} {pt : ByteArray} {ya za : Option Addr} {yn yc zn zc : Nat} {pl di : Bool} {gn : Int} {Lk : List Kd} {kk : Kd} (us ug fs fg ts tg : Int) (w : World) (h : TreeAt w t sb sg kb km l L tk) (hr : RoomsAt w)
    (hL : S.Live l us ug i ⟨true, ⟨k, ⟨#[]⟩, ⟨#[]⟩, pt, ⟨ya, yn, yc⟩, ⟨za, zn, zc⟩, pl, di⟩, gn⟩) (hN : O.NodeIn w k pt ya yn yc za zn zc Lk) (hM : O.MayB k Lk.length pt)
    (hj : Lk[jj]? = some kk) (hf : findK Lk kk.b = some kk) (hs : kk.s = fs) (hg : kk.g = fg) (hn : ∀ i k, i < jj → Lk[i]? = some k → ¬ (k.s = fs ∧ k.g = fg)) (hok : (⟨kk.b, ts, tg⟩ : Kd).ok) :
    Calls Tryz.prog 43 #[.pointer (some ⟨t, 0, none⟩), .agg #[.int .i64 us, .int .u32 ug], .agg #[.int .i64 fs, .int .u32 fg], .agg #[.int .i64 ts, .int .u32 tg]] w fun e w' => ∃ ya' yc' za' zc', e = .returned (.tuple #[]) ∧
      TreeAt w' t sb sg kb km (l.set i ⟨true, ⟨k, ⟨#[]⟩, ⟨#[]⟩, pt, ⟨ya', Lk.length, yc'⟩, ⟨za', Lk.length, zc'⟩, pl, di⟩, gn⟩) L tk ∧ O.NodeIn w' k pt ya' Lk.length yc' za' Lk.length zc' (turnK Lk kk.b ts tg) ∧ Mod (· = sg) w w' := by
  have hs1 : (w.alloc (.cells #[.int .i64 us, .int .u32 ug] 30 (0, 0))).heap.size = w.heap.size + 1 := by simp
  have hs2 : ((w.alloc (.cells #[.int .i64 us, .int .u32 ug] 30 (0, 0))).alloc (.cells #[.int .i64 fs, .int .u32 fg] 30 (0, 0))).heap.size = w.heap.size + 1 + 1 := by simp
  have b0 := blk_alloc (o' := (.cells #[.int .i64 ts, .int .u32 tg] 30 (0, 0))) (blk_alloc (o' := (.cells #[.int .i64 fs, .int .u32 fg] 30 (0, 0))) (heap_new w (.cells #[.int .i64 us, .int .u32 ug] 30 (0, 0))))
  have b1 := blk_alloc (o' := (.cells #[.int .i64 ts, .int .u32 tg] 30 (0, 0))) (heap_new (w.alloc (.cells #[.int .i64 us, .int .u32 ug] 30 (0, 0))) (.cells #[.int .i64 fs, .int .u32 fg] 30 (0, 0)))
  have b2 := heap_new ((w.alloc (.cells #[.int .i64 us, .int .u32 ug] 30 (0, 0))).alloc (.cells #[.int .i64 fs, .int .u32 fg] 30 (0, 0))) (.cells #[.int .i64 ts, .int .u32 tg] 30 (0, 0))
  rw [hs1] at b1
  rw [hs2] at b2
  have hB : Below w.heap.size w (((w.alloc (.cells #[.int .i64 us, .int .u32 ug] 30 (0, 0))).alloc (.cells #[.int .i64 fs, .int .u32 fg] 30 (0, 0))).alloc (.cells #[.int .i64 ts, .int .u32 tg] 30 (0, 0))) := (((Below.refl _ _).alloc (Nat.le_refl _) _).alloc (by simp) _).alloc (by simp; omega) _
  have hlt : t < w.heap.size ∧ sb < w.heap.size ∧ sg < w.heap.size ∧ kb < w.heap.size ∧ km < w.heap.size := ⟨lt_of_block h.ht, h.hs.blt, h.hs.glt, h.hk.lt.1, h.hk.lt.2⟩
  obtain rfl : zn = Lk.length := O.own_len hN.z
  obtain rfl : yn = Lk.length := O.own_len hN.b
  have hjl : jj < Lk.length := (List.getElem?_eq_some_iff.1 hj).1
  obtain ⟨gy, rfl, ly, cy⟩ := O.own_cells hN.b (by omega)
  have hcy := cy jj _ (bytesL_get hj)
  have HH := hid h
  have HRM := hid hr
  have HL := hid hL
  have HN := hid hN
  have HM := hid hM
  have HJ0 := hid hj
  have HF := hid hf
  have HSG := hid (And.intro hs hg)
  have HNO := hid hn
  have HOK := hid hok
  have HLT := hid hlt
  have HCY := hid hcy
  have HND := hid (node_at us ug (((w.alloc (.cells #[.int .i64 us, .int .u32 ug] 30 (0, 0))).alloc (.cells #[.int .i64 fs, .int .u32 fg] 30 (0, 0))).alloc (.cells #[.int .i64 ts, .int .u32 tg] 30 (0, 0))) (h.keep hB) hL)
  clear h hr hL hN hM hj hf hs hg hn hok hlt cy hcy hs1 hs2
  go_enter Tryz.func43, Tryz.ntmps43
  go_wp2_with (first | (go_at_call 38; refine HND.out.mono ?_; rintro e w2 ⟨rfl, hb2⟩; go_loud (have hz2 : w.heap.size + 1 + 1 + 1 ≤ w2.heap.size := (by have := hb2.size; simpa using this); have hv := fun o => heap_new w2 o; have hb24 := fun o => (Below.refl w2.heap.size w2).alloc (Nat.le_refl _) o; have n4 := cell_of (hv (.cells #[.int .i64 k, .string ⟨#[]⟩, .string ⟨#[]⟩, .string pt, .slice (some ⟨gy, 0, none⟩) Lk.length yc, .slice za Lk.length zc] 53 (0, 0))) 4; have n5 := cell_of (hv (.cells #[.int .i64 k, .string ⟨#[]⟩, .string ⟨#[]⟩, .string pt, .slice (some ⟨gy, 0, none⟩) Lk.length yc, .slice za Lk.length zc] 53 (0, 0))) 5; have hbw2 := hB.trans (hb2.mono hB.size); have h0 := (hb24 (.cells #[.int .i64 k, .string ⟨#[]⟩, .string ⟨#[]⟩, .string pt, .slice (some ⟨gy, 0, none⟩) Lk.length yc, .slice za Lk.length zc] 53 (0, 0))).block _ (by have := hb2.block _ (lt_of_block b0); exact lt_of_block (this.trans b0)); have HB4 := hid (hbw2.trans ((hb24 (.cells #[.int .i64 k, .string ⟨#[]⟩, .string ⟨#[]⟩, .string pt, .slice (some ⟨gy, 0, none⟩) Lk.length yc, .slice za Lk.length zc] 53 (0, 0))).mono hbw2.size)); have HV4 := hid (hv (.cells #[.int .i64 k, .string ⟨#[]⟩, .string ⟨#[]⟩, .string pt, .slice (some ⟨gy, 0, none⟩) Lk.length yc, .slice za Lk.length zc] 53 (0, 0))); have hbW := fun o => hb2.trans ((hb24 o).mono hb2.size); have H0 := hid (((hbW (.cells #[.int .i64 k, .string ⟨#[]⟩, .string ⟨#[]⟩, .string pt, .slice (some ⟨gy, 0, none⟩) Lk.length yc, .slice za Lk.length zc] 53 (0, 0))).block _ (lt_of_block b0)).trans b0); have H1 := hid (((hbW (.cells #[.int .i64 k, .string ⟨#[]⟩, .string ⟨#[]⟩, .string pt, .slice (some ⟨gy, 0, none⟩) Lk.length yc, .slice za Lk.length zc] 53 (0, 0))).block _ (lt_of_block b1)).trans b1); have H2 := hid (((hbW (.cells #[.int .i64 k, .string ⟨#[]⟩, .string ⟨#[]⟩, .string pt, .slice (some ⟨gy, 0, none⟩) Lk.length yc, .slice za Lk.length zc] 53 (0, 0))).block _ (lt_of_block b2)).trans b2); have f0 := cell_of H1.out 0; have f1 := cell_of H1.out 1; have HIX := hid (rIndex_at fs fg (w2.alloc (.cells #[.int .i64 k, .string ⟨#[]⟩, .string ⟨#[]⟩, .string pt, .slice (some ⟨gy, 0, none⟩) Lk.length yc, .slice za Lk.length zc] 53 (0, 0))) (HN.out.keep HB4.out).z HJ0.out HSG.out.1 HSG.out.2 HNO.out HN.out.room); clear hv hb24 hbw2 h0 hbW hb2)) | (go_at_call 51; refine HIX.out.mono ?_; rintro e w5 ⟨rfl, hb5⟩; go_loud (have HB5 := hid (HB4.out.trans (hb5.mono HB4.out.size)); have HV5 := hid ((hb5.block _ (lt_of_block HV4.out)).trans HV4.out); have H05 := hid ((hb5.block _ (lt_of_block H0.out)).trans H0.out); have H25 := hid ((hb5.block _ (lt_of_block H2.out)).trans H2.out); clear hb5)))
  have hvw : w.heap.size ≤ w2.heap.size := by omega
  generalize w2.heap.size = vb at *
  have hzv := lt_of_block HV5.out
  have hb5s := HB5.out.size
  have hlt := HLT.out
  have hwm : ∀ w1, Mod (· = vb) w5 w1 → Below w.heap.size w w1 := fun w1 hM => below_mods HB5.out hM hvw hb5s
  have hgy : ∀ w1, Mod (· = vb) w5 w1 → w1.cell? ⟨gy, jj, none⟩ = some (.int .u8 kk.b) := fun w1 hM => (World.cell?_of_block (w := w) ((hwm w1 hM).block gy ly)).trans HCY.out
  have HWM := hid hwm
  have HGY := hid hgy
  clear hwm hgy f0 f1 n4 n5 HIX HND
  refine wp_region_val 12 (GJ 53 (TurnF k pt Lk.length vb (turnK Lk kk.b ts tg)) w5 vb 7 11 [0, 1, 2, 3, 4, 5, 6] [8, 9, 10] [(7, 0), (4, 2), (5, 2), (7, 2)] (fun j => ([(.agg #[.int .i64 k, .string ⟨#[]⟩, .string ⟨#[]⟩, .string pt, .slice (some ⟨gy, 0, none⟩) Lk.length yc, .slice za Lk.length zc]), .pointer (some ⟨vb, 4, none⟩), .slice (some ⟨gy, 0, none⟩) Lk.length yc, .int .i64 jj, .pointer (some ⟨gy, jj, none⟩), .int .u8 kk.b, .agg #[.int .i64 ts, .int .u32 tg]] : List Value)[j]?.getD undef) tdT #[.int .i64 k, .string ⟨#[]⟩, .string ⟨#[]⟩, .string pt, .slice (some ⟨gy, 0, none⟩) Lk.length yc, .slice za Lk.length zc] (fun x => match tupAt x 0 with | .agg cs => cs | _ => #[])) (by kernel_rfl) (by kernel_rfl) (by kernel_rfl) ?h0 ?hs ?hend
  case h0 => exact GJ.start HV5.out
  case hs =>
    dsimp only [List.take, AllOpsI, dsts, fill]
    refine ⟨?_, ?_, ?_, ?_, ?_, ?_, ?_, ?_, ?_, ?_, ?_, ?_⟩
    · intro D xs w1 hDk hwt hJ
      skip
      have h11 : D 11 = false := by
        cases e : D 11
        · rfl
        · have := hJ.p 7 0 (by decide) (hJ.s e)
          rw [this] at hDk
          cases hDk
      have hc := hJ.c
      rw [h11] at hc
      simp only [cond_false] at hc
      have q0 := cell_of hc 0; have q1 := cell_of hc 1; have q2 := cell_of hc 2; have q3 := cell_of hc 3; have q4 := cell_of hc 4; have q5 := cell_of hc 5; clear hc
      have HJ := hid hJ
      have HWT := hid hwt
      clear hDk hwt hJ
      go_wp2_with fail
      first | exact ⟨(.agg #[.int .i64 k, .string ⟨#[]⟩, .string ⟨#[]⟩, .string pt, .slice (some ⟨gy, 0, none⟩) Lk.length yc, .slice za Lk.length zc]), by kernel_rfl, fun q hq => by obtain rfl := hq rfl; exact GJ.calm turnF_keeps HJ.out (by decide) (by decide) (by decide) (fun _ => rfl) (Below.refl _ _) (fun j h => absurd h (by simp))⟩ | exact ⟨(.agg #[.int .i64 k, .string ⟨#[]⟩, .string ⟨#[]⟩, .string pt, .slice (some ⟨gy, 0, none⟩) Lk.length yc, .slice za Lk.length zc]), by kernel_rfl, GJ.calm turnF_keeps HJ.out (by decide) (by decide) (by decide) (fun _ => rfl) (Below.refl _ _) (fun j h => absurd h (by simp))⟩
    · intro D xs w1 hDk hwt hJ
      skip
      skip
      have HJ := hid hJ
      have HWT := hid hwt
      clear hDk hwt hJ
      go_wp2_with fail
      first | exact ⟨.pointer (some ⟨vb, 4, none⟩), by kernel_rfl, fun q hq => by obtain rfl := hq rfl; exact GJ.calm turnF_keeps HJ.out (by decide) (by decide) (by decide) (fun _ => rfl) (Below.refl _ _) (fun j h => absurd h (by simp))⟩ | exact ⟨.pointer (some ⟨vb, 4, none⟩), by kernel_rfl, GJ.calm turnF_keeps HJ.out (by decide) (by decide) (by decide) (fun _ => rfl) (Below.refl _ _) (fun j h => absurd h (by simp))⟩
    · intro D xs w1 hDk hwt hJ
      have ee : xs 1 = .pointer (some ⟨vb, 4, none⟩) := hJ.v 1 (hwt 1 (List.mem_of_elem_eq_true (by kernel_rfl))) (by decide)
      rw [ee]
      clear ee
      have h11 : D 11 = false := by
        cases e : D 11
        · rfl
        · have := hJ.p 7 2 (by decide) (hJ.s e)
          rw [this] at hDk
          cases hDk
      have hc := hJ.c
      rw [h11] at hc
      simp only [cond_false] at hc
      have q0 := cell_of hc 0; have q1 := cell_of hc 1; have q2 := cell_of hc 2; have q3 := cell_of hc 3; have q4 := cell_of hc 4; have q5 := cell_of hc 5; clear hc
      have HJ := hid hJ
      have HWT := hid hwt
      clear hDk hwt hJ
      go_wp2_with fail
      first | exact ⟨.slice (some ⟨gy, 0, none⟩) Lk.length yc, by kernel_rfl, fun q hq => by obtain rfl := hq rfl; exact GJ.calm turnF_keeps HJ.out (by decide) (by decide) (by decide) (fun _ => rfl) (Below.refl _ _) (fun j h => absurd h (by simp))⟩ | exact ⟨.slice (some ⟨gy, 0, none⟩) Lk.length yc, by kernel_rfl, GJ.calm turnF_keeps HJ.out (by decide) (by decide) (by decide) (fun _ => rfl) (Below.refl _ _) (fun j h => absurd h (by simp))⟩
    · intro D xs w1 hDk hwt hJ
      skip
      skip
      have HJ := hid hJ
      have HWT := hid hwt
      clear hDk hwt hJ
      go_wp2_with fail
      first | exact ⟨.int .i64 jj, by kernel_rfl, fun q hq => by obtain rfl := hq rfl; exact GJ.calm turnF_keeps HJ.out (by decide) (by decide) (by decide) (fun _ => rfl) (Below.refl _ _) (fun j h => absurd h (by simp))⟩ | exact ⟨.int .i64 jj, by kernel_rfl, GJ.calm turnF_keeps HJ.out (by decide) (by decide) (by decide) (fun _ => rfl) (Below.refl _ _) (fun j h => absurd h (by simp))⟩
    · intro D xs w1 hDk hwt hJ
      have ee : xs 2 = .slice (some ⟨gy, 0, none⟩) Lk.length yc := hJ.v 2 (hwt 2 (List.mem_of_elem_eq_true (by kernel_rfl))) (by decide)
      rw [ee]
      clear ee
      have ee : xs 3 = .int .i64 jj := hJ.v 3 (hwt 3 (List.mem_of_elem_eq_true (by kernel_rfl))) (by decide)
      rw [ee]
      clear ee
      have HJ := hid hJ
      have HWT := hid hwt
      clear hDk hwt hJ
      go_wp2_with fail
      first | exact ⟨.pointer (some ⟨gy, jj, none⟩), by kernel_rfl, fun q hq => by obtain rfl := hq rfl; exact GJ.calm turnF_keeps HJ.out (by decide) (by decide) (by decide) (fun _ => rfl) (Below.refl _ _) (fun j' h => by simp at h; subst h; exact HWT.out 2 (List.mem_of_elem_eq_true (by kernel_rfl)))⟩ | exact ⟨.pointer (some ⟨gy, jj, none⟩), by kernel_rfl, GJ.calm turnF_keeps HJ.out (by decide) (by decide) (by decide) (fun _ => rfl) (Below.refl _ _) (fun j' h => by simp at h; subst h; exact HWT.out 2 (List.mem_of_elem_eq_true (by kernel_rfl)))⟩
    · intro D xs w1 hDk hwt hJ
      have ee : xs 4 = .pointer (some ⟨gy, jj, none⟩) := hJ.v 4 (hwt 4 (List.mem_of_elem_eq_true (by kernel_rfl))) (by decide)
      rw [ee]
      clear ee
      have g0 := HGY.out w1 hJ.m
      have HJ := hid hJ
      have HWT := hid hwt
      clear hDk hwt hJ
      go_wp2_with fail
      first | exact ⟨.int .u8 kk.b, by kernel_rfl, fun q hq => by obtain rfl := hq rfl; exact GJ.calm turnF_keeps HJ.out (by decide) (by decide) (by decide) (fun _ => rfl) (Below.refl _ _) (fun j' h => by simp at h; subst h; exact HJ.out.p 4 2 (by decide) (HWT.out 4 (List.mem_of_elem_eq_true (by kernel_rfl))))⟩ | exact ⟨.int .u8 kk.b, by kernel_rfl, GJ.calm turnF_keeps HJ.out (by decide) (by decide) (by decide) (fun _ => rfl) (Below.refl _ _) (fun j' h => by simp at h; subst h; exact HJ.out.p 4 2 (by decide) (HWT.out 4 (List.mem_of_elem_eq_true (by kernel_rfl))))⟩
    · intro D xs w1 hDk hwt hJ
      skip
      have h2 := (hJ.m.block _ (lt_of_block H25.out) (by show ¬ _ = _; omega)).trans H25.out; have t0 := cell_of h2 0; have t1 := cell_of h2 1
      have HJ := hid hJ
      have HWT := hid hwt
      clear hDk hwt hJ
      go_wp2_with fail
      first | exact ⟨.agg #[.int .i64 ts, .int .u32 tg], by kernel_rfl, fun q hq => by obtain rfl := hq rfl; exact GJ.calm turnF_keeps HJ.out (by decide) (by decide) (by decide) (fun _ => rfl) (Below.refl _ _) (fun j h => absurd h (by simp))⟩ | exact ⟨.agg #[.int .i64 ts, .int .u32 tg], by kernel_rfl, GJ.calm turnF_keeps HJ.out (by decide) (by decide) (by decide) (fun _ => rfl) (Below.refl _ _) (fun j h => absurd h (by simp))⟩
    · intro D xs w1 hDk hwt hJ
      have hD : D 7 = false := hDk
      have ee : xs 0 = (.agg #[.int .i64 k, .string ⟨#[]⟩, .string ⟨#[]⟩, .string pt, .slice (some ⟨gy, 0, none⟩) Lk.length yc, .slice za Lk.length zc]) := hJ.v 0 (hwt 0 (List.mem_of_elem_eq_true (by kernel_rfl))) (by decide)
      rw [ee]
      clear ee
      have ee : xs 5 = .int .u8 kk.b := hJ.v 5 (hwt 5 (List.mem_of_elem_eq_true (by kernel_rfl))) (by decide)
      rw [ee]
      clear ee
      have ee : xs 6 = .agg #[.int .i64 ts, .int .u32 tg] := hJ.v 6 (hwt 6 (List.mem_of_elem_eq_true (by kernel_rfl))) (by decide)
      rw [ee]
      clear ee
      have hwb := HWM.out w1 hJ.m
      have HTN := hid (O.Turn_at kk.b ts tg kk HOK.out HF.out (HN.out.keep hwb) (HRM.out.keep hwb) HM.out)
      have h11 : D 11 = false := by
        cases e : D 11
        · rfl
        · rw [hJ.s e] at hD; cases hD
      have hc := hJ.c
      rw [h11] at hc
      simp only [cond_false] at hc
      have HC := hid hc
      have HJ := hid hJ
      have HWT := hid hwt
      clear hDk hwt hJ hwb hc
      go_wp2_with (go_at_call 85; refine HTN.out.mono ?_; rintro e w6 ⟨ya', yc', za', zc', rfl, hN6, hb6⟩)
      have hF6 := turnF_of hN6 ((hb6.block _ (lt_of_block HC.out)).trans HC.out)
      first | exact ⟨.tuple #[.agg #[.int .i64 k, .string ⟨#[]⟩, .string ⟨#[]⟩, .string pt, .slice ya' Lk.length yc', .slice za' Lk.length zc'], .int .i64 0], by kernel_rfl, fun q hq => by obtain rfl := hq rfl; exact GJ.call HJ.out hD (by decide) (by decide) (by decide) hF6 hb6 (fun j' h => by simp at h; rcases h with rfl | rfl; exact HWT.out 0 (List.mem_of_elem_eq_true (by kernel_rfl)); exact HJ.out.p 5 2 (by decide) (HWT.out 5 (List.mem_of_elem_eq_true (by kernel_rfl))))⟩ | exact ⟨.tuple #[.agg #[.int .i64 k, .string ⟨#[]⟩, .string ⟨#[]⟩, .string pt, .slice ya' Lk.length yc', .slice za' Lk.length zc'], .int .i64 0], by kernel_rfl, GJ.call HJ.out hD (by decide) (by decide) (by decide) hF6 hb6 (fun j' h => by simp at h; rcases h with rfl | rfl; exact HWT.out 0 (List.mem_of_elem_eq_true (by kernel_rfl)); exact HJ.out.p 5 2 (by decide) (HWT.out 5 (List.mem_of_elem_eq_true (by kernel_rfl))))⟩
    · intro D xs w1 hDk hwt hJ
      have h7 : D 7 = true := hwt 7 (List.mem_of_elem_eq_true (by kernel_rfl))
      obtain ⟨ya', yc', za', zc', ea, _⟩ := hJ.l h7
      have HEA := hid ea
      rw [ea]
      have HJ := hid hJ
      clear hDk hwt hJ ea
      go_wp2_with fail
      first | exact ⟨.tuple #[.agg #[.int .i64 k, .string ⟨#[]⟩, .string ⟨#[]⟩, .string pt, .slice ya' Lk.length yc', .slice za' Lk.length zc'], .int .i64 0], by kernel_rfl, fun q hq => by obtain rfl := hq rfl; exact GJ.dep HJ.out h7 (by decide) (by decide) (by decide) (by rw [HEA.out]; rfl) (fun j h => absurd h (by simp))⟩ | exact ⟨.tuple #[.agg #[.int .i64 k, .string ⟨#[]⟩, .string ⟨#[]⟩, .string pt, .slice ya' Lk.length yc', .slice za' Lk.length zc'], .int .i64 0], by kernel_rfl, GJ.dep HJ.out h7 (by decide) (by decide) (by decide) (by rw [HEA.out]; rfl) (fun j h => absurd h (by simp))⟩
    · intro D xs w1 hDk hwt hJ
      obtain ⟨h7, e8⟩ := hJ.e 8 (hwt 8 (List.mem_of_elem_eq_true (by kernel_rfl))) (by decide)
      obtain ⟨ya', yc', za', zc', ea, _⟩ := hJ.l h7
      have e9 : xs 8 = .tuple #[.agg #[.int .i64 k, .string ⟨#[]⟩, .string ⟨#[]⟩, .string pt, .slice ya' Lk.length yc', .slice za' Lk.length zc'], .int .i64 0] := by rw [e8, ea]; rfl
      clear e8
      have HEA := hid ea
      rw [e9]
      have HJ := hid hJ
      clear hDk hwt hJ ea e9
      go_wp2_with fail
      first | exact ⟨.agg #[.int .i64 k, .string ⟨#[]⟩, .string ⟨#[]⟩, .string pt, .slice ya' Lk.length yc', .slice za' Lk.length zc'], by kernel_rfl, fun q hq => by obtain rfl := hq rfl; exact GJ.dep HJ.out h7 (by decide) (by decide) (by decide) (by rw [HEA.out]; rfl) (fun j h => absurd h (by simp))⟩ | exact ⟨.agg #[.int .i64 k, .string ⟨#[]⟩, .string ⟨#[]⟩, .string pt, .slice ya' Lk.length yc', .slice za' Lk.length zc'], by kernel_rfl, GJ.dep HJ.out h7 (by decide) (by decide) (by decide) (by rw [HEA.out]; rfl) (fun j h => absurd h (by simp))⟩
    · intro D xs w1 hDk hwt hJ
      obtain ⟨h7, e8⟩ := hJ.e 8 (hwt 8 (List.mem_of_elem_eq_true (by kernel_rfl))) (by decide)
      obtain ⟨ya', yc', za', zc', ea, _⟩ := hJ.l h7
      have e9 : xs 8 = .tuple #[.agg #[.int .i64 k, .string ⟨#[]⟩, .string ⟨#[]⟩, .string pt, .slice ya' Lk.length yc', .slice za' Lk.length zc'], .int .i64 0] := by rw [e8, ea]; rfl
      clear e8
      have HEA := hid ea
      rw [e9]
      have HJ := hid hJ
      clear hDk hwt hJ ea e9
      go_wp2_with fail
      first | exact ⟨.int .i64 0, by kernel_rfl, fun q hq => by obtain rfl := hq rfl; exact GJ.dep HJ.out h7 (by decide) (by decide) (by decide) (by rw [HEA.out]; rfl) (fun j h => absurd h (by simp))⟩ | exact ⟨.int .i64 0, by kernel_rfl, GJ.dep HJ.out h7 (by decide) (by decide) (by decide) (by rw [HEA.out]; rfl) (fun j h => absurd h (by simp))⟩
    · intro D xs w1 hDk hwt hJ
      have hD : D 11 = false := hDk
      obtain ⟨h7, e8⟩ := hJ.e 9 (hwt 9 (List.mem_of_elem_eq_true (by kernel_rfl))) (by decide)
      obtain ⟨ya', yc', za', zc', ea, _⟩ := hJ.l h7
      have e9 : xs 9 = .agg #[.int .i64 k, .string ⟨#[]⟩, .string ⟨#[]⟩, .string pt, .slice ya' Lk.length yc', .slice za' Lk.length zc'] := by rw [e8, ea]; rfl
      have hc := hJ.c
      rw [hD] at hc
      simp only [cond_false] at hc
      have HC := hid hc
      have q0 := cell_of hc 0; have q1 := cell_of hc 1; have q2 := cell_of hc 2; have q3 := cell_of hc 3; have q4 := cell_of hc 4; have q5 := cell_of hc 5; clear hc
      have qf := free_of HC.out
      have HJ := hid hJ
      have HEA := hid ea
      rw [e9]
      clear hDk hwt hJ ea e8 e9
      go_wp2_with fail
      obtain ⟨m1, m2⟩ := O.set6_at (.int .i64 k) (.string ⟨#[]⟩) (.string ⟨#[]⟩) (.string pt) (.slice ya' Lk.length yc') (.slice za' Lk.length zc') HC.out
      exact ⟨undef, by kernel_rfl, fun q _ => GJ.store turnF_keeps HJ.out h7 (by decide) (by decide) (by decide) m2 (by rw [HEA.out]; exact m1) (fun j h => absurd h (by simp))⟩
  case hend =>
    intro D xs w1 hD hJ
    obtain ⟨ya', yc', za', zc', ea, hN6, _⟩ := hJ.l (hD 7 (by omega))
    have hc := hJ.c
    rw [hD 11 (by omega), ea] at hc
    simp only [cond_true, tupAt] at hc
    have hM1 := hJ.m
    have hT1 := HH.out.keep (HWM.out w1 hM1)
    have HPS := hid (pset_at us ug k ⟨#[]⟩ ⟨#[]⟩ pt ya' za' Lk.length yc' Lk.length zc' w1 hT1 HL.out)
    have hc2 : w1.heap[vb]? = some (.cells #[.int .i64 k, .string ⟨#[]⟩, .string ⟨#[]⟩, .string pt, .slice ya' Lk.length yc', .slice za' Lk.length zc'] 53 (0, 0)) := hc
    have q0 := cell_of hc2 0
    have q1 := cell_of hc2 1
    have q2 := cell_of hc2 2
    have q3 := cell_of hc2 3
    have q4 := cell_of hc2 4
    have q5 := cell_of hc2 5
    have h05 := (hM1.block _ (lt_of_block H05.out) (by show ¬ _ = _; omega)).trans H05.out
    have u0 := cell_of h05 0
    have u1 := cell_of h05 1
    have HE := hid (And.intro hN6 (And.intro hT1 (HWM.out w1 hM1)))
    clear hD hJ ea hc hc2 hM1 hT1 hN6 h05
    dsimp only [List.take, dsts, fill, List.drop]
    go_wp2_with (go_at_call 39; refine HPS.out.mono ?_; rintro e w7 ⟨rfl, hT7, hM7⟩)
    go_end0
    obtain ⟨hN6, hT1, hbw⟩ := HE.out
    have hno : ∀ kb', kb' = sg → NoRow w1 kb' := fun kb' e => hT1.noRow kb' (.inl e)
    exact ⟨ya', yc', za', zc', rfl, hT7, ⟨O.own_mod hN6.b hM7 (fun kb' hk hs => own_not hN6.b (.inl rfl) hk (hno kb' hs)), O.own_mod hN6.z hM7 (fun kb' hk hs => own_not hN6.z (.inr rfl) hk (hno kb' hs)), hN6.k1, hN6.k2, hN6.p, hN6.len, hN6.rise, hN6.ok⟩, (Mod.ofBelow (S := (· = sg)) hbw).trans hM7 (fun _ _ h => h)⟩
end Go.Proofs.YtnngicopphiaaaaGreatDoor.T

namespace Go.Proofs.YtnngicopphiaaaaGreatDoor.T
set_option maxRecDepth 8000
open Go.ChangeShapes Go.WideShapes Go.ChangeAt Go.RowKit Go.Burg
open Go.Burg.Lk
def forkK (x y : Kd) : List Kd := if x.b < y.b then [x, y] else [y, x]
theorem fork_end (p : ByteArray) (a b : Kd) (w : World) (hp : p.size ≤ 34) (ha : a.ok) (hb : b.ok) (hlt : a.b < b.b) :
    (((((w.alloc (.cells #[.int .i64 a.s, .int .u32 a.g] 30 (0, 0))).alloc (.cells #[.int .i64 b.s, .int .u32 b.g] 30 (0, 0))).alloc (.cells #[.int .i64 2, .string ⟨#[]⟩, .string ⟨#[]⟩, .string p, .slice (some ⟨w.heap.size + 1 + 1 + 1, 0, none⟩) 2 2, .slice (some ⟨w.heap.size + 1 + 1 + 1 + 1, 0, none⟩) 2 2] 53 (0, 0))).alloc (.cells #[.int .u8 a.b, .int .u8 b.b] 5 (0, 0))).alloc (.cells #[.int .i64 a.s, .int .u32 a.g, .int .i64 b.s, .int .u32 b.g] 30 (0, 0))).heap[w.heap.size + 1 + 1]? = some (.cells #[.int .i64 2, .string ⟨#[]⟩, .string ⟨#[]⟩, .string p, .slice (some ⟨w.heap.size + 1 + 1 + 1, 0, none⟩) 2 2, .slice (some ⟨w.heap.size + 1 + 1 + 1 + 1, 0, none⟩) 2 2] 53 (0, 0)) ∧
      O.NodeIn (((((w.alloc (.cells #[.int .i64 a.s, .int .u32 a.g] 30 (0, 0))).alloc (.cells #[.int .i64 b.s, .int .u32 b.g] 30 (0, 0))).alloc (.cells #[.int .i64 2, .string ⟨#[]⟩, .string ⟨#[]⟩, .string p, .slice (some ⟨w.heap.size + 1 + 1 + 1, 0, none⟩) 2 2, .slice (some ⟨w.heap.size + 1 + 1 + 1 + 1, 0, none⟩) 2 2] 53 (0, 0))).alloc (.cells #[.int .u8 a.b, .int .u8 b.b] 5 (0, 0))).alloc (.cells #[.int .i64 a.s, .int .u32 a.g, .int .i64 b.s, .int .u32 b.g] 30 (0, 0))) 2 p (some ⟨w.heap.size + 1 + 1 + 1, 0, none⟩) 2 2 (some ⟨w.heap.size + 1 + 1 + 1 + 1, 0, none⟩) 2 2 [a, b] ∧ Below w.heap.size w (((((w.alloc (.cells #[.int .i64 a.s, .int .u32 a.g] 30 (0, 0))).alloc (.cells #[.int .i64 b.s, .int .u32 b.g] 30 (0, 0))).alloc (.cells #[.int .i64 2, .string ⟨#[]⟩, .string ⟨#[]⟩, .string p, .slice (some ⟨w.heap.size + 1 + 1 + 1, 0, none⟩) 2 2, .slice (some ⟨w.heap.size + 1 + 1 + 1 + 1, 0, none⟩) 2 2] 53 (0, 0))).alloc (.cells #[.int .u8 a.b, .int .u8 b.b] 5 (0, 0))).alloc (.cells #[.int .i64 a.s, .int .u32 a.g, .int .i64 b.s, .int .u32 b.g] 30 (0, 0))) := by
  generalize hn : (Obj.cells #[.int .i64 2, .string ⟨#[]⟩, .string ⟨#[]⟩, .string p, .slice (some ⟨w.heap.size + 1 + 1 + 1, 0, none⟩) 2 2, .slice (some ⟨w.heap.size + 1 + 1 + 1 + 1, 0, none⟩) 2 2] 53 (0, 0)) = no
  have s1 : (w.alloc (.cells #[.int .i64 a.s, .int .u32 a.g] 30 (0, 0))).heap.size = w.heap.size + 1 := by simp
  have s2 : ((w.alloc (.cells #[.int .i64 a.s, .int .u32 a.g] 30 (0, 0))).alloc (.cells #[.int .i64 b.s, .int .u32 b.g] 30 (0, 0))).heap.size = w.heap.size + 1 + 1 := by simp
  have s3 : (((w.alloc (.cells #[.int .i64 a.s, .int .u32 a.g] 30 (0, 0))).alloc (.cells #[.int .i64 b.s, .int .u32 b.g] 30 (0, 0))).alloc no).heap.size = w.heap.size + 1 + 1 + 1 := by simp
  have s4 : ((((w.alloc (.cells #[.int .i64 a.s, .int .u32 a.g] 30 (0, 0))).alloc (.cells #[.int .i64 b.s, .int .u32 b.g] 30 (0, 0))).alloc no).alloc (.cells #[.int .u8 a.b, .int .u8 b.b] 5 (0, 0))).heap.size = w.heap.size + 1 + 1 + 1 + 1 := by simp
  have b2 := blk_alloc (o' := .cells #[.int .i64 a.s, .int .u32 a.g, .int .i64 b.s, .int .u32 b.g] 30 (0, 0)) (blk_alloc (o' := .cells #[.int .u8 a.b, .int .u8 b.b] 5 (0, 0)) (heap_new ((w.alloc (.cells #[.int .i64 a.s, .int .u32 a.g] 30 (0, 0))).alloc (.cells #[.int .i64 b.s, .int .u32 b.g] 30 (0, 0))) no))
  have b3 := blk_alloc (o' := .cells #[.int .i64 a.s, .int .u32 a.g, .int .i64 b.s, .int .u32 b.g] 30 (0, 0)) (heap_new (((w.alloc (.cells #[.int .i64 a.s, .int .u32 a.g] 30 (0, 0))).alloc (.cells #[.int .i64 b.s, .int .u32 b.g] 30 (0, 0))).alloc no) (.cells #[.int .u8 a.b, .int .u8 b.b] 5 (0, 0)))
  have b4 := heap_new ((((w.alloc (.cells #[.int .i64 a.s, .int .u32 a.g] 30 (0, 0))).alloc (.cells #[.int .i64 b.s, .int .u32 b.g] 30 (0, 0))).alloc no).alloc (.cells #[.int .u8 a.b, .int .u8 b.b] 5 (0, 0))) (.cells #[.int .i64 a.s, .int .u32 a.g, .int .i64 b.s, .int .u32 b.g] 30 (0, 0))
  rw [s2] at b2
  rw [s3] at b3
  rw [s4] at b4
  refine ⟨b2, ⟨⟨rfl, .inr ⟨_, 2, _, rfl, Nat.zero_le _, b3, Nat.le_refl _, by simp [maxLen], rfl, rfl⟩⟩, ⟨rfl, .inr ⟨_, 2, _, rfl, Nat.zero_le _, b4, Nat.le_refl _, by simp [maxLen], rfl, rfl⟩⟩, by omega, by omega, hp, by simp [roomOf], ?_, ?_⟩, ?_⟩
  · exact List.pairwise_cons.2 ⟨fun c hc => by simp at hc; subst hc; exact hlt, List.pairwise_singleton _ _⟩
  · intro c hc
    simp at hc
    rcases hc with rfl | rfl
    · exact ha
    · exact hb
  · exact (((((Below.refl _ _).alloc (Nat.le_refl _) _).alloc (by simp) _).alloc (by simp; omega) _).alloc (by simp; omega) _).alloc (by simp; omega) _
set_option maxHeartbeats 2000000 in
theorem nfork_at (p : ByteArray) (x y : Kd) (w : World) (hp : p.size ≤ 34) (hx : x.ok) (hy : y.ok) (hne : x.b ≠ y.b) :
    Calls Tryz.prog 78 #[.string p, .int .u8 x.b, .agg #[.int .i64 x.s, .int .u32 x.g], .int .u8 y.b, .agg #[.int .i64 y.s, .int .u32 y.g]] w fun e w' => ∃ gb gk, e = .returned (.agg #[.int .i64 2, .string ⟨#[]⟩, .string ⟨#[]⟩, .string p, .slice (some ⟨gb, 0, none⟩) 2 2, .slice (some ⟨gk, 0, none⟩) 2 2]) ∧
      O.NodeIn w' 2 p (some ⟨gb, 0, none⟩) 2 2 (some ⟨gk, 0, none⟩) 2 2 (forkK x y) ∧ Below w.heap.size w w' ∧ w.heap.size ≤ gb ∧ w.heap.size ≤ gk := by
  have hs1 : (w.alloc (.cells #[.int .i64 x.s, .int .u32 x.g] 30 (0, 0))).heap.size = w.heap.size + 1 := by simp
  have b0 := blk_alloc (o' := (.cells #[.int .i64 0, .string ⟨#[]⟩, .string ⟨#[]⟩, .string ⟨#[]⟩, .slice none 0 0, .slice none 0 0] 53 (0, 0))) (blk_alloc (o' := (.cells #[.int .i64 y.s, .int .u32 y.g] 30 (0, 0))) (heap_new w (.cells #[.int .i64 x.s, .int .u32 x.g] 30 (0, 0))))
  have b1 := blk_alloc (o' := (.cells #[.int .i64 0, .string ⟨#[]⟩, .string ⟨#[]⟩, .string ⟨#[]⟩, .slice none 0 0, .slice none 0 0] 53 (0, 0))) (heap_new (w.alloc (.cells #[.int .i64 x.s, .int .u32 x.g] 30 (0, 0))) (.cells #[.int .i64 y.s, .int .u32 y.g] 30 (0, 0)))
  rw [hs1] at b1
  rcases Int.lt_trichotomy x.b y.b with hlt | heq | hgt
  · have d1 : decide (x.b > y.b) = false := by simp; omega
    go_enter Tryz.func78, Tryz.ntmps78
    go_wp2_with fail
    obtain ⟨m1, m2, m3⟩ := fork_end p x y w hp hx hy hlt
    have ek : forkK x y = [x, y] := if_pos hlt
    rw [ek]
    obtain ⟨fs, hus⟩ : ∃ fs, Tryz.prog.underlying 53 = some (.struct fs) := ⟨_, rfl⟩
    exact bodyPost_ret (results_cell_row rfl _ _ (w.heap.size + 1 + 1) _ _ _ _ rfl m1 hus rfl (by kernel_rfl)) rfl ⟨_, _, rfl, m2, m3, by omega, by omega⟩
  · exact absurd heq hne
  · have d1 : decide (x.b > y.b) = true := by simp; omega
    have a0 := cell_of b0 0
    have a1 := cell_of b0 1
    have c0 := cell_of b1 0
    have c1 := cell_of b1 1
    go_enter Tryz.func78, Tryz.ntmps78
    go_wp2_with fail
    go_region
    go_wp2_with fail
    obtain ⟨m1, m2, m3⟩ := fork_end p y x w hp hy hx hgt
    have ek : forkK x y = [y, x] := if_neg (by omega)
    rw [ek]
    obtain ⟨fs, hus⟩ : ∃ fs, Tryz.prog.underlying 53 = some (.struct fs) := ⟨_, rfl⟩
    exact bodyPost_ret (results_cell_row rfl _ _ (w.heap.size + 1 + 1) _ _ _ _ rfl m1 hus rfl (by kernel_rfl)) rfl ⟨_, _, rfl, m2.keep ((Below.refl _ _).drew), m3.drew, by omega, by omega⟩
end Go.Proofs.YtnngicopphiaaaaGreatDoor.T
