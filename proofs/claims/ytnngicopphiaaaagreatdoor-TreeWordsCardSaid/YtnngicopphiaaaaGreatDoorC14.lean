/- Part 14 of 51 of a proof: lemmas on the functions that it reaches. -/
import Derived.Test.YtnngicopphiaaaaGreatDoorC13
import Derived.Maps.AppendAt
namespace Go.Burg
open Go
theorem take_put {L : List Kd} (hR : Rise L) {j : Nat} {k : Kd} (hk : L[j]? = some k) : findK (L.take j) k.b = none ∧ insK (L.take j) k = L.take (j + 1) ∧ Rise (L.take j) := by
  have hj := (List.getElem?_eq_some_iff.1 hk).1
  have hlt : ∀ z ∈ L.take j, z.b < k.b := fun z hz => by
    obtain ⟨i, hi, rfl⟩ := List.getElem_of_mem hz
    have hi2 : i < j := by simp at hi; omega
    have h1 := List.pairwise_iff_getElem.1 hR i j (by omega) hj hi2
    rw [List.getElem?_eq_getElem hj] at hk
    cases hk
    simpa using h1
  refine ⟨?_, ?_, hR.sublist (List.take_sublist _ _)⟩
  · unfold findK
    rw [List.find?_eq_none]
    intro z hz
    have := hlt z hz
    simp
    omega
  · rw [insK_last hlt, List.take_add_one, hk]
    rfl
end Go.Burg
namespace Go.Proofs.YtnngicopphiaaaaGreatDoor.O
set_option maxRecDepth 8000
open Go.ChangeShapes Go.WideShapes Go.ChangeAt Go.RowKit Go.Burg
section
variable {w w' : World} {k : Nat} {pt : ByteArray} {ya za : Option Addr} {yn yc zn zc : Nat} {L : List Kd}
set_option maxHeartbeats 4000000 in
theorem laid_at (r : Nat) (h : NodeIn w k pt ya yn yc za zn zc L) (hr : r = 4 ∨ r = 16 ∨ r = 48 ∨ r = 256) (hlen : L.length ≤ r) : Calls Tryz.prog 82 #[(.agg #[.int .i64 k, .string ⟨#[]⟩, .string ⟨#[]⟩, .string pt, .slice ya yn yc, .slice za zn zc]), .int .i64 r] w fun e w' => ∃ v, e = .returned v ∧ KidsAt w.heap.size w' v L r ∧ Below w.heap.size w w' := by
  have hnf : ∀ (w : World) (b : Nat), (nilAhead 369 195 (.pointer (some ⟨b, 0, none⟩)) "Put").run Tryz.prog w = .ok (some false) w := fun w b => by kernel_rfl
  have hnm : ∀ (w : World) (b : Nat), (nilAhead 369 198 (.pointer (some ⟨b, 0, none⟩)) "Put").run Tryz.prog w = .ok (some false) w := fun w b => by kernel_rfl
  have hmt : ∀ (w : World) (b : Nat), (method 369 195 (.pointer (some ⟨b, 0, none⟩)) "Put").run Tryz.prog w = .ok (170, .pointer (some ⟨b, 0, none⟩)) w := fun w b => by kernel_rfl
  have hmu : ∀ (w : World) (b : Nat), (method 369 198 (.pointer (some ⟨b, 0, none⟩)) "Put").run Tryz.prog w = .ok (185, .pointer (some ⟨b, 0, none⟩)) w := fun w b => by kernel_rfl
  have hmf : ∀ (fn : Fn) (first cap : Array Value) (w : World), (Instr.makeFunc fn first cap).run Tryz.prog w = .ok (.func fn first cap) w := fun _ _ _ _ => rfl
  have hA := h.alloc (.cells #[.int .i64 k, .string ⟨#[]⟩, .string ⟨#[]⟩, .string pt, .slice ya yn yc, .slice za zn zc] 136 (0, 0))
  have hN := heap_new w (.cells #[.int .i64 k, .string ⟨#[]⟩, .string ⟨#[]⟩, .string pt, .slice ya yn yc, .slice za zn zc] 136 (0, 0))
  have hs1 : (w.alloc (.cells #[.int .i64 k, .string ⟨#[]⟩, .string ⟨#[]⟩, .string pt, .slice ya yn yc, .slice za zn zc] 136 (0, 0))).heap.size = w.heap.size + 1 := by simp
  have HYN : Hid (yn = L.length) := hid (own_len h.b)
  have hB : Below w.heap.size w (w.alloc (.cells #[.int .i64 k, .string ⟨#[]⟩, .string ⟨#[]⟩, .string pt, .slice ya yn yc, .slice za zn zc] 136 (0, 0))) := (Below.refl _ _).alloc (Nat.le_refl _) _
  have HROW := hid (row_at r hr (w.alloc (.cells #[.int .i64 k, .string ⟨#[]⟩, .string ⟨#[]⟩, .string pt, .slice ya yn yc, .slice za zn zc] 136 (0, 0))))
  have hL256 := h.room
  have HR := hid h.rise
  have HOK := hid h.ok
  go_enter Tryz.func82, Tryz.ntmps82
  go_wp2_with fail
  generalize hW : w.alloc (.cells #[.int .i64 k, .string ⟨#[]⟩, .string ⟨#[]⟩, .string pt, .slice ya yn yc, .slice za zn zc] 136 (0, 0)) = W at *
  generalize hu : w.heap.size = u at *
  have HA := hid hA
  have HN := hid hN
  have HB := hid hB
  have HLEN := hid hlen
  have HS1 := hid hs1
  have HU := hid hu
  clear h hA hN hs1 hB hlen hr hW hu
  refine HROW.out.mono ?_
  rintro e w1 ⟨v, rfl, hK, hb1⟩
  have hk1 := (hb1.block u (lt_of_block HN.out)).trans HN.out
  have c4 := cell_of hk1 4
  have HN1 := hid hk1
  have HB1 := hid hb1
  clear hk1 hb1 HROW
  rcases hK with ⟨x, hx, rfl, hF⟩ | ⟨x, gr, gu, hx, rfl, hF⟩
  · have HF := hid hF
    clear hF
    go_wp2_with fail
    go_loopw [14] (fun iv wr => ∃ j : Nat, j ≤ yn ∧ iv = .int .i64 j ∧ FewL 212 wr x (L.take j) r ∧ Below W.heap.size W wr) (fun iv _ => yn - (intOf iv).toNat)
    case atStart => exact ⟨0, Nat.zero_le _, rfl, by rw [List.take_zero]; exact HF.out, HB1.out⟩
    case round =>
      obtain ⟨j, hj, rfl, hF, hb⟩ := hrel
      have hk := (hb.block u (lt_of_block HN.out)).trans HN.out
      have HK := hid hk
      have HBB := hid hb
      have HFF := hid hF
      clear hk hb hF
      by_cases hlt : j < yn
      · have i1 : j < L.length := by have := HYN.out; omega
        obtain ⟨gb, rfl, hgb, hgbc⟩ := own_cells HA.out.b (by omega)
        obtain ⟨gz, rfl, hgz, hgzc⟩ := own_cells HA.out.z (by omega)
        have hxk : L[j]? = some L[j] := List.getElem?_eq_getElem _
        generalize L[j] = y at hxk
        obtain ⟨yb, ys, yg⟩ := y
        have q0 : wr.cell? ⟨gb, j, none⟩ = some (.int .u8 yb) := (World.cell?_of_block (w := W) (HBB.out.block gb hgb)).trans (hgbc _ _ (bytesL_get hxk))
        have q1 : wr.cell? ⟨gz, j * 2, none⟩ = some (.int .i64 ys) := (World.cell?_of_block (w := W) (HBB.out.block gz hgz)).trans (hgzc _ _ (kidsL_get hxk).1)
        have q2 : wr.cell? ⟨gz, j * 2 + 1, none⟩ = some (.int .u32 yg) := (World.cell?_of_block (w := W) (HBB.out.block gz hgz)).trans (hgzc _ _ (kidsL_get hxk).2)
        have HQ := hid (And.intro q1 q2)
        have HGZ := hid hgz
        have hzn : zn = L.length := own_len HA.out.z
        have d0 : decide (yn ≤ j) = false := by simp; omega
        have d1 : j < zn := by omega
        have HBY := hid (HOK.out _ (List.mem_of_getElem? hxk)).1
        obtain ⟨t1, t2, t3⟩ := take_put HR.out hxk
        have HT1 := hid t1
        have HT2 := hid t2
        have htl : (L.take j).length < r := by have := HLEN.out; rw [List.length_take]; omega
        have HTL := hid htl
        clear hxk hgbc hgzc hgz q1 q2 hzn t1 t2 t3 htl
        go_wp2_with fail
        have hux : u ≠ x := by have := lt_of_block HN.out; omega
        have hgx : gz ≠ x := by have := HGZ.out; omega
        refine wp_region_seqI 12 (Turn 11 (fun w2 => FewL 212 w2 x (L.take j) r ∧ Mod (· = x) wr w2) (fun w2 => FewL 212 w2 x (L.take (j + 1)) r ∧ Mod (· = x) wr w2)) (by kernel_rfl) (by kernel_rfl) (by kernel_rfl) (Turn.start ⟨HFF.out.same rfl, (Mod.refl _ _).drew⟩) ?_
        dsimp only [List.take]
        iterate 11
          refine Seq.calm (a' := ?_) (by decide) ?_ ?_ ?_
          rotate_left
          ·
            intro w1 hw1
            have hM : Mod (· = x) wr w1 := hw1.elim (fun h => h.2) (fun h => h.2)
            have hk := (hM.block u (lt_of_block HK.out) (by exact hux)).trans HK.out
            have p5 := cell_of hk 5
            have r0 := (World.cell?_of_block (w := wr) (hM.block gz (Nat.lt_of_lt_of_le HGZ.out HBB.out.size) (by exact hgx))).trans HQ.out.1
            have r1 := (World.cell?_of_block (w := wr) (hM.block gz (Nat.lt_of_lt_of_le HGZ.out HBB.out.size) (by exact hgx))).trans HQ.out.2
            clear hM hk hw1
            go_wp2_with (fail)
            first | (refine ⟨?_, id, id⟩; exact rfl) | (refine ⟨?_, fail⟩; exact rfl)
          · kernel_rfl
        refine Seq.turn (a' := ?_) ?_ ?_ ?_
        rotate_left
        ·
          intro w1 hw1
          have hF2 := hw1.1
          have HM2 := hid hw1.2
          have HP := hid (F.fPut_L ⟨yb, ys, yg⟩ w1 hF2 HT1.out HTL.out)
          rw [HT2.out] at HP
          clear hw1 hF2
          go_wp2_with (go_at_call 170; refine HP.out.mono ?_; rintro e w2 ⟨rfl, hF3, hM3⟩)
          refine ⟨?_, hF3, HM2.out.trans hM3 (fun _ _ h => h)⟩
          exact rfl
        · kernel_rfl
        iterate 0
          refine Seq.calm (a' := ?_) (by decide) ?_ ?_ ?_
          rotate_left
          ·
            intro w1 hw1
            have hM : Mod (· = x) wr w1 := hw1.elim (fun h => h.2) (fun h => h.2)
            have hk := (hM.block u (lt_of_block HK.out) (by exact hux)).trans HK.out
            have p5 := cell_of hk 5
            have r0 := (World.cell?_of_block (w := wr) (hM.block gz (Nat.lt_of_lt_of_le HGZ.out HBB.out.size) (by exact hgx))).trans HQ.out.1
            have r1 := (World.cell?_of_block (w := wr) (hM.block gz (Nat.lt_of_lt_of_le HGZ.out HBB.out.size) (by exact hgx))).trans HQ.out.2
            clear hM hk hw1
            go_wp2_with (fail)
            first | (refine ⟨?_, id, id⟩; exact rfl) | (refine ⟨?_, fail⟩; exact rfl)
          · kernel_rfl
        refine SeqI.nil ?_
        intro D w1 hD hI
        replace hI := hI.done (hD 11 (by omega))
        clear hD
        dsimp only [List.drop]
        have HI := hid hI
        clear hI
        go_wp2_with fail
        go_roundw
        case rel => exact ⟨j + 1, by omega, by go_num, HI.out.1, HBB.out.trans (HI.out.2.below HBB.out.size (fun i hi e => by omega))⟩
        case measure => simp [intOf]; omega
      · obtain rfl : j = yn := by omega
        go_wp2_with fail
        go_ret
        refine ⟨_, rfl, .inl ⟨x, by have := HS1.out; have := HU.out; omega, rfl, ?_⟩, ?_⟩
        · have := HFF.out
          rwa [HYN.out, List.take_length] at this
        · rw [HU.out]; exact HB.out.trans (HBB.out.mono (by have := HS1.out; omega))
  · have HF := hid hF
    clear hF
    go_wp2_with fail
    go_loopw [14] (fun iv wr => ∃ j : Nat, j ≤ yn ∧ iv = .int .i64 j ∧ ManyL 219 30 4 wr x gr gu r (L.take j) ∧ Below W.heap.size W wr) (fun iv _ => yn - (intOf iv).toNat)
    case atStart => exact ⟨0, Nat.zero_le _, rfl, by rw [List.take_zero]; exact HF.out, HB1.out⟩
    case round =>
      obtain ⟨j, hj, rfl, hF, hb⟩ := hrel
      have hk := (hb.block u (lt_of_block HN.out)).trans HN.out
      have HK := hid hk
      have HBB := hid hb
      have HFF := hid hF
      clear hk hb hF
      by_cases hlt : j < yn
      · have i1 : j < L.length := by have := HYN.out; omega
        obtain ⟨gb, rfl, hgb, hgbc⟩ := own_cells HA.out.b (by omega)
        obtain ⟨gz, rfl, hgz, hgzc⟩ := own_cells HA.out.z (by omega)
        have hxk : L[j]? = some L[j] := List.getElem?_eq_getElem _
        generalize L[j] = y at hxk
        obtain ⟨yb, ys, yg⟩ := y
        have q0 : wr.cell? ⟨gb, j, none⟩ = some (.int .u8 yb) := (World.cell?_of_block (w := W) (HBB.out.block gb hgb)).trans (hgbc _ _ (bytesL_get hxk))
        have q1 : wr.cell? ⟨gz, j * 2, none⟩ = some (.int .i64 ys) := (World.cell?_of_block (w := W) (HBB.out.block gz hgz)).trans (hgzc _ _ (kidsL_get hxk).1)
        have q2 : wr.cell? ⟨gz, j * 2 + 1, none⟩ = some (.int .u32 yg) := (World.cell?_of_block (w := W) (HBB.out.block gz hgz)).trans (hgzc _ _ (kidsL_get hxk).2)
        have HQ := hid (And.intro q1 q2)
        have HGZ := hid hgz
        have hzn : zn = L.length := own_len HA.out.z
        have d0 : decide (yn ≤ j) = false := by simp; omega
        have d1 : j < zn := by omega
        have HBY := hid (HOK.out _ (List.mem_of_getElem? hxk)).1
        obtain ⟨t1, t2, t3⟩ := take_put HR.out hxk
        have HT1 := hid t1
        have HT2 := hid t2
        have htl : (L.take j).length < r := by have := HLEN.out; rw [List.length_take]; omega
        have HTL := hid htl
        clear hxk hgbc hgzc hgz q1 q2 hzn t1 t2 t3 htl
        go_wp2_with fail
        have hux : ¬ MOwn x gr gu u := by have := lt_of_block HN.out; rintro (e | e | e) <;> omega
        have hgx : ¬ MOwn x gr gu gz := by have := HGZ.out; rintro (e | e | e) <;> omega
        refine wp_region_seqI 12 (Turn 11 (fun w2 => ManyL 219 30 4 w2 x gr gu r (L.take j) ∧ Mod (MOwn x gr gu) wr w2) (fun w2 => ManyL 219 30 4 w2 x gr gu r (L.take (j + 1)) ∧ Mod (MOwn x gr gu) wr w2)) (by kernel_rfl) (by kernel_rfl) (by kernel_rfl) (Turn.start ⟨⟨by obtain ⟨M, h1, h2⟩ := HFF.out.m; exact ⟨M, h1.same rfl rfl rfl, h2⟩⟩, (Mod.refl _ _).drew⟩) ?_
        dsimp only [List.take]
        iterate 11
          refine Seq.calm (a' := ?_) (by decide) ?_ ?_ ?_
          rotate_left
          ·
            intro w1 hw1
            have hM : Mod (MOwn x gr gu) wr w1 := hw1.elim (fun h => h.2) (fun h => h.2)
            have hk := (hM.block u (lt_of_block HK.out) (by exact hux)).trans HK.out
            have p5 := cell_of hk 5
            have r0 := (World.cell?_of_block (w := wr) (hM.block gz (Nat.lt_of_lt_of_le HGZ.out HBB.out.size) (by exact hgx))).trans HQ.out.1
            have r1 := (World.cell?_of_block (w := wr) (hM.block gz (Nat.lt_of_lt_of_le HGZ.out HBB.out.size) (by exact hgx))).trans HQ.out.2
            clear hM hk hw1
            go_wp2_with (fail)
            first | (refine ⟨?_, id, id⟩; exact rfl) | (refine ⟨?_, fail⟩; exact rfl)
          · kernel_rfl
        refine Seq.turn (a' := ?_) ?_ ?_ ?_
        rotate_left
        ·
          intro w1 hw1
          have hF2 := hw1.1
          have HM2 := hid hw1.2
          have HP := hid (M.put_L ⟨yb, ys, yg⟩ HTL.out hF2 HBY.out HT1.out)
          rw [HT2.out] at HP
          clear hw1 hF2
          go_wp2_with (go_at_call 185; refine HP.out.mono ?_; rintro e w2 ⟨rfl, hF3, hM3⟩)
          refine ⟨?_, hF3, HM2.out.trans hM3 (fun _ _ h => h)⟩
          exact rfl
        · kernel_rfl
        iterate 0
          refine Seq.calm (a' := ?_) (by decide) ?_ ?_ ?_
          rotate_left
          ·
            intro w1 hw1
            have hM : Mod (MOwn x gr gu) wr w1 := hw1.elim (fun h => h.2) (fun h => h.2)
            have hk := (hM.block u (lt_of_block HK.out) (by exact hux)).trans HK.out
            have p5 := cell_of hk 5
            have r0 := (World.cell?_of_block (w := wr) (hM.block gz (Nat.lt_of_lt_of_le HGZ.out HBB.out.size) (by exact hgx))).trans HQ.out.1
            have r1 := (World.cell?_of_block (w := wr) (hM.block gz (Nat.lt_of_lt_of_le HGZ.out HBB.out.size) (by exact hgx))).trans HQ.out.2
            clear hM hk hw1
            go_wp2_with (fail)
            first | (refine ⟨?_, id, id⟩; exact rfl) | (refine ⟨?_, fail⟩; exact rfl)
          · kernel_rfl
        refine SeqI.nil ?_
        intro D w1 hD hI
        replace hI := hI.done (hD 11 (by omega))
        clear hD
        dsimp only [List.drop]
        have HI := hid hI
        clear hI
        go_wp2_with fail
        go_roundw
        case rel => exact ⟨j + 1, by omega, by go_num, HI.out.1, HBB.out.trans (HI.out.2.below HBB.out.size (fun i hi e => by rcases e with e | e | e <;> omega))⟩
        case measure => simp [intOf]; omega
      · obtain rfl : j = yn := by omega
        go_wp2_with fail
        go_ret
        refine ⟨_, rfl, .inr ⟨x, gr, gu, by have := HS1.out; have := HU.out; omega, rfl, ?_⟩, ?_⟩
        · have := HFF.out
          rwa [HYN.out, List.take_length] at this
        · rw [HU.out]; exact HB.out.trans (HBB.out.mono (by have := HS1.out; omega))
end
end Go.Proofs.YtnngicopphiaaaaGreatDoor.O

namespace Go.Proofs.YtnngicopphiaaaaGreatDoor.O
set_option maxRecDepth 8000
open Go.ChangeShapes Go.WideShapes Go.ChangeAt Go.RowKit Go.Burg
theorem own_ne {w : World} {B B' : Nat} {e e' : TypeId} {s s' n n' : Nat} {v v' : Value} {xs xs' : List Value} (h : w.ownsRow B e s v n xs) (h' : w.ownsRow B' e' s' v' n' xs') (hne : e ≠ e') : v.ownBlock = none ∨ v.ownBlock ≠ v'.ownBlock := by
  obtain ⟨_, ⟨rfl, _⟩ | ⟨g, cap, cur, rfl, _, hc, _⟩⟩ := h
  · exact .inl rfl
  · obtain ⟨_, ⟨rfl, _⟩ | ⟨g', cap', cur', rfl, _, hc', _⟩⟩ := h'
    · exact .inr (by simp [Value.ownBlock])
    · refine .inr fun e => ?_
      simp only [Value.ownBlock, Option.some.injEq] at e
      subst e
      rw [hc] at hc'
      simp at hc'
      exact hne hc'.2
theorem own_ge {w : World} {B : Nat} {e : TypeId} {s n k : Nat} {v : Value} {xs : List Value} (h : w.ownsRow B e s v n xs) (hk : v.ownBlock = some k) : B ≤ k ∧ k < w.heap.size := h.lt k hk
theorem own_mod {w w' : World} {S : Nat → Prop} {B : Nat} {e : TypeId} {s n : Nat} {v : Value} {xs : List Value} (h : w.ownsRow B e s v n xs) (hM : Mod S w w') (hs : ∀ k, v.ownBlock = some k → ¬ S k) : w'.ownsRow B e s v n xs := by
  have h' := h
  obtain ⟨h1, h2 | ⟨g, cap, cur, a, b, c, d⟩⟩ := h
  · exact ⟨h1, .inl h2⟩
  · exact ⟨h1, .inr ⟨g, cap, cur, a, b, (hM.block g (lt_of_block c) (hs g (by rw [a]; rfl))).trans c, d⟩⟩
def OfS (c7 : Nat) (yv zv : Value) (k : Nat) : Prop := k = c7 ∨ yv.ownBlock = some k ∨ zv.ownBlock = some k
def rdL : List Nat := [0, 1, 2, 5, 6, 7, 10, 12]
structure OfJ (W0 : World) (c7 n₁ n : Nat) (kd : Value) (pt : ByteArray) (yv zv : Value) (bs zs : List Value) (b s g : Int) (tab : Nat → Value) (D : Nat → Bool) (xs : Nat → Value) (w : World) : Prop where
  m : Mod (OfS c7 yv zv) W0 w
  c : w.heap[c7]? = some (.cells #[kd, .string ⟨#[]⟩, .string ⟨#[]⟩, .string pt, (cond (D 11) (xs 4) yv), (cond (D 13) (xs 9) zv)] 53 (0, 0))
  y : w.ownsRow n₁ 5 1 (cond (D 4) (xs 4) yv) (cond (D 4) (n + 1) n) (cond (D 4) (bs ++ [.int .u8 b]) bs)
  z : w.ownsRow n₁ 30 2 (cond (D 9) (xs 9) zv) (cond (D 9) (n + 1) n) (cond (D 9) (zs ++ [.int .i64 s, .int .u32 g]) zs)
  y2 : D 4 = true → (xs 4).ownBlock = yv.ownBlock ∨ ∃ a, (xs 4).ownBlock = some a ∧ W0.heap.size ≤ a
  z2 : D 9 = true → (xs 9).ownBlock = zv.ownBlock ∨ ∃ a, (xs 9).ownBlock = some a ∧ W0.heap.size ≤ a
  l3 : D 3 = true → D 4 = false → ∃ a, xs 3 = .slice (some ⟨a, 0, none⟩) 1 1 ∧ w.heap[a]? = some (.cells #[.int .u8 b] 5 (0, 0)) ∧ W0.heap.size ≤ a
  l8 : D 8 = true → D 9 = false → ∃ a, xs 8 = .slice (some ⟨a, 0, none⟩) 1 1 ∧ w.heap[a]? = some (.cells #[.int .i64 s, .int .u32 g] 30 (0, 0)) ∧ W0.heap.size ≤ a
  v : ∀ j, D j = true → j ∈ rdL → xs j = tab j
  o4 : D 4 = true → D 1 = true ∧ D 3 = true
  o9 : D 9 = true → D 6 = true ∧ D 8 = true
  o11 : D 11 = true → D 4 = true
  o13 : D 13 = true → D 9 = true
section
variable {W0 w w' : World} {c7 n₁ n : Nat} {kd : Value} {pt : ByteArray} {yv zv : Value} {bs zs : List Value} {b s g : Int} {tab : Nat → Value} {D : Nat → Bool} {xs : Nat → Value}
theorem OfJ.start (oy : W0.ownsRow n₁ 5 1 yv n bs) (oz : W0.ownsRow n₁ 30 2 zv n zs) (hc : W0.heap[c7]? = some (.cells #[kd, .string ⟨#[]⟩, .string ⟨#[]⟩, .string pt, yv, zv] 53 (0, 0))) : OfJ W0 c7 n₁ n kd pt yv zv bs zs b s g tab (fun _ => false) (fun _ => undef) W0.drew :=
  ⟨(Mod.refl _ _).drew, hc, oy, oz, fun h => (by cases h), fun h => (by cases h), fun h => (by cases h), fun h => (by cases h), fun j h => (by cases h), fun h => (by cases h), fun h => (by cases h), fun h => (by cases h), fun h => (by cases h)⟩
theorem OfJ.up {i : Nat} (hi : i ≠ 3 ∧ i ≠ 4 ∧ i ≠ 8 ∧ i ≠ 9 ∧ i ≠ 11 ∧ i ≠ 13) : ∀ k, (k = 3 ∨ k = 4 ∨ k = 8 ∨ k = 9 ∨ k = 11 ∨ k = 13) → (fun j => D j || j == i) k = D k ∧ ∀ u : Value, (fun j => if j = i then u else xs j) k = xs k := by
  intro k hk
  have hne : k ≠ i := by rcases hk with rfl | rfl | rfl | rfl | rfl | rfl <;> (intro e; subst e; simp at hi)
  exact ⟨by simp [hne], fun u => by simp [hne]⟩
theorem OfJ.calm (h : OfJ W0 c7 n₁ n kd pt yv zv bs zs b s g tab D xs w) {i : Nat} {u : Value} (hi : i ≠ 3 ∧ i ≠ 4 ∧ i ≠ 8 ∧ i ≠ 9 ∧ i ≠ 11 ∧ i ≠ 13) (hu : u = tab i) : OfJ W0 c7 n₁ n kd pt yv zv bs zs b s g tab (fun j => D j || j == i) (fun j => if j = i then u else xs j) w := by
  have e := OfJ.up (D := D) (xs := xs) hi
  have d3 : (D 3 || 3 == i) = D 3 := (e 3 (by simp)).1
  have d4 : (D 4 || 4 == i) = D 4 := (e 4 (by simp)).1
  have d8 : (D 8 || 8 == i) = D 8 := (e 8 (by simp)).1
  have d9 : (D 9 || 9 == i) = D 9 := (e 9 (by simp)).1
  have d11 : (D 11 || 11 == i) = D 11 := (e 11 (by simp)).1
  have d13 : (D 13 || 13 == i) = D 13 := (e 13 (by simp)).1
  have x3 : (if 3 = i then u else xs 3) = xs 3 := (e 3 (by simp)).2 u
  have x4 : (if 4 = i then u else xs 4) = xs 4 := (e 4 (by simp)).2 u
  have x8 : (if 8 = i then u else xs 8) = xs 8 := (e 8 (by simp)).2 u
  have x9 : (if 9 = i then u else xs 9) = xs 9 := (e 9 (by simp)).2 u
  refine ⟨h.m, ?_, ?_, ?_, ?_, ?_, ?_, ?_, fun j hj hr => ?_, ?_, ?_, ?_, ?_⟩
  · rw [d11, d13, x4, x9]; exact h.c
  · rw [d4, x4]; exact h.y
  · rw [d9, x9]; exact h.z
  · rw [d4, x4]; exact h.y2
  · rw [d9, x9]; exact h.z2
  · rw [d3, d4, x3]; exact h.l3
  · rw [d8, d9, x8]; exact h.l8
  · by_cases ej : j = i
    · subst ej; simp only [if_pos]; exact hu
    · simp only [if_neg ej]; exact h.v j (by simpa [ej] using hj) hr
  · rw [d4]
    intro h4
    obtain ⟨a, b⟩ := h.o4 h4
    exact ⟨by simp [a], by simp [b]⟩
  · rw [d9]
    intro h9
    obtain ⟨a, b⟩ := h.o9 h9
    exact ⟨by simp [a], by simp [b]⟩
  · rw [d11, d4]; exact h.o11
  · rw [d13, d9]; exact h.o13
theorem OfJ.lay3 (h : OfJ W0 c7 n₁ n kd pt yv zv bs zs b s g tab D xs w) (h4 : D 4 = false) : OfJ W0 c7 n₁ n kd pt yv zv bs zs b s g tab (fun j => D j || j == 3) (fun j => if j = 3 then .slice (some ⟨w.heap.size, 0, none⟩) 1 1 else xs j) (w.alloc (.cells #[.int .u8 b] 5 (0, 0))) := by
  refine ⟨h.m.alloc _, ?_, ?_, ?_, ?_, ?_, fun _ _ => ⟨_, rfl, heap_new _ _, h.m.size⟩, ?_, fun j hj hr => ?_, ?_, ?_, ?_, ?_⟩
  · simpa using blk_alloc2 h.c
  · simpa using h.y.alloc _
  · simpa using h.z.alloc _
  · simpa using h.y2
  · simpa using h.z2
  · intro h8 h9
    obtain ⟨a, e1, e2, e3⟩ := h.l8 (by simpa using h8) (by simpa using h9)
    exact ⟨a, by simpa using e1, blk_alloc2 e2, e3⟩
  · have ej : ¬ j = 3 := by rintro rfl; simp [rdL] at hr
    simp only [if_neg ej]; exact h.v j (by simpa [ej] using hj) hr
  · intro e; simp at e; rw [h4] at e; cases e
  · intro e; obtain ⟨a, b⟩ := h.o9 (by simpa using e); exact ⟨by simp [a], by simp [b]⟩
  · intro e; have := h.o11 (by simpa using e); simp [this]
  · intro e; have := h.o13 (by simpa using e); simp [this]
theorem OfJ.lay8 (h : OfJ W0 c7 n₁ n kd pt yv zv bs zs b s g tab D xs w) (h9 : D 9 = false) : OfJ W0 c7 n₁ n kd pt yv zv bs zs b s g tab (fun j => D j || j == 8) (fun j => if j = 8 then .slice (some ⟨w.heap.size, 0, none⟩) 1 1 else xs j) (w.alloc (.cells #[.int .i64 s, .int .u32 g] 30 (0, 0))) := by
  refine ⟨h.m.alloc _, ?_, ?_, ?_, ?_, ?_, ?_, fun _ _ => ⟨_, rfl, heap_new _ _, h.m.size⟩, fun j hj hr => ?_, ?_, ?_, ?_, ?_⟩
  · simpa using blk_alloc2 h.c
  · simpa using h.y.alloc _
  · simpa using h.z.alloc _
  · simpa using h.y2
  · simpa using h.z2
  · intro h3 h4
    obtain ⟨a, e1, e2, e3⟩ := h.l3 (by simpa using h3) (by simpa using h4)
    exact ⟨a, by simpa using e1, blk_alloc2 e2, e3⟩
  · have ej : ¬ j = 8 := by rintro rfl; simp [rdL] at hr
    simp only [if_neg ej]; exact h.v j (by simpa [ej] using hj) hr
  · intro e; obtain ⟨a, b⟩ := h.o4 (by simpa using e); exact ⟨by simp [a], by simp [b]⟩
  · intro e; simp at e; rw [h9] at e; cases e
  · intro e; have := h.o11 (by simpa using e); simp [this]
  · intro e; have := h.o13 (by simpa using e); simp [this]
theorem OfJ.app4 (h : OfJ W0 c7 n₁ n kd pt yv zv bs zs b s g tab D xs w) (h0 : c7 < n₁) (hn1 : ∀ k, yv.ownBlock = some k → k < W0.heap.size) (hD : D 4 = false) (hw : D 1 = true ∧ D 3 = true) {v' : Value} (hy : w'.ownsRow n₁ 5 1 v' (n + 1) (bs ++ [.int .u8 b])) (hg : w.grownBy w' yv.ownBlock) (hb : v'.ownBlock = yv.ownBlock ∨ v'.ownBlock = some w.heap.size) :
    OfJ W0 c7 n₁ n kd pt yv zv bs zs b s g tab (fun j => D j || j == 4) (fun j => if j = 4 then v' else xs j) w' := by
  have h11 : D 11 = false := by cases e : D 11; rfl; (have := h.o11 e; rw [hD] at this; cases this)
  have hy0 := h.y
  rw [hD] at hy0
  have hMo : Mod (fun k => yv.ownBlock = some k) w w' := ⟨hg.os, hg.tape, hg.output, hg.size, fun k hk hn => hg.block k hk (fun e => hn e.symm)⟩
  refine ⟨h.m.trans hMo (fun k _ e => .inr (.inl e)), ?_, by simpa using hy, ?_, fun _ => ?_, ?_, fun _ e => (by simp at e), ?_, fun j hj hr => ?_, fun _ => ⟨by simp [hw.1], by simp [hw.2]⟩, ?_, fun _ => by simp, ?_⟩
  · have := (hMo.block c7 (lt_of_block h.c) (fun e => by have := (own_ge hy0 e).1; omega)).trans h.c
    simpa [h11] using this
  · have hz := h.z
    have hne := own_ne hz hy0 (by decide)
    have := own_mod hz hMo (fun k e1 e2 => hne.elim (fun e => by rw [e] at e1; cases e1) (fun e => e (e1.trans e2.symm)))
    simpa using this
  · simp only [if_pos]
    rcases hb with hb | hb
    · exact .inl hb
    · exact .inr ⟨_, hb, h.m.size⟩
  · simpa using h.z2
  · intro h8 h9
    obtain ⟨a, e1, e2, e3⟩ := h.l8 (by simpa using h8) (by simpa using h9)
    exact ⟨a, by simpa using e1, (hMo.block a (lt_of_block e2) (fun e => by have := hn1 a e; omega)).trans e2, e3⟩
  · have ej : ¬ j = 4 := by rintro rfl; simp [rdL] at hr
    simp only [if_neg ej]; exact h.v j (by simpa [ej] using hj) hr
  · intro e; obtain ⟨a, b⟩ := h.o9 (by simpa using e); exact ⟨by simp [a], by simp [b]⟩
  · intro e; have := h.o13 (by simpa using e); simp [this]
theorem OfJ.app9 (h : OfJ W0 c7 n₁ n kd pt yv zv bs zs b s g tab D xs w) (h0 : c7 < n₁) (hn1 : ∀ k, zv.ownBlock = some k → k < W0.heap.size) (hD : D 9 = false) (hw : D 6 = true ∧ D 8 = true) {v' : Value} (hz : w'.ownsRow n₁ 30 2 v' (n + 1) (zs ++ [.int .i64 s, .int .u32 g])) (hg : w.grownBy w' zv.ownBlock) (hb : v'.ownBlock = zv.ownBlock ∨ v'.ownBlock = some w.heap.size) :
    OfJ W0 c7 n₁ n kd pt yv zv bs zs b s g tab (fun j => D j || j == 9) (fun j => if j = 9 then v' else xs j) w' := by
  have h13 : D 13 = false := by cases e : D 13; rfl; (have := h.o13 e; rw [hD] at this; cases this)
  have hz0 := h.z
  rw [hD] at hz0
  have hMo : Mod (fun k => zv.ownBlock = some k) w w' := ⟨hg.os, hg.tape, hg.output, hg.size, fun k hk hn => hg.block k hk (fun e => hn e.symm)⟩
  refine ⟨h.m.trans hMo (fun k _ e => .inr (.inr e)), ?_, ?_, by simpa using hz, ?_, fun _ => ?_, ?_, fun _ e => (by simp at e), fun j hj hr => ?_, ?_, fun _ => ⟨by simp [hw.1], by simp [hw.2]⟩, ?_, fun _ => by simp⟩
  · have := (hMo.block c7 (lt_of_block h.c) (fun e => by have := (own_ge hz0 e).1; omega)).trans h.c
    simpa [h13] using this
  · have hy := h.y
    have hne := own_ne hy hz0 (by decide)
    have := own_mod hy hMo (fun k e1 e2 => hne.elim (fun e => by rw [e] at e1; cases e1) (fun e => e (e1.trans e2.symm)))
    simpa using this
  · simpa using h.y2
  · simp only [if_pos]
    rcases hb with hb | hb
    · exact .inl hb
    · exact .inr ⟨_, hb, h.m.size⟩
  · intro h3 h4
    obtain ⟨a, e1, e2, e3⟩ := h.l3 (by simpa using h3) (by simpa using h4)
    exact ⟨a, by simpa using e1, (hMo.block a (lt_of_block e2) (fun e => by have := hn1 a e; omega)).trans e2, e3⟩
  · have ej : ¬ j = 9 := by rintro rfl; simp [rdL] at hr
    simp only [if_neg ej]; exact h.v j (by simpa [ej] using hj) hr
  · intro e; obtain ⟨a, b⟩ := h.o4 (by simpa using e); exact ⟨by simp [a], by simp [b]⟩
  · intro e; have := h.o11 (by simpa using e); simp [this]
theorem OfJ.st11 (h : OfJ W0 c7 n₁ n kd pt yv zv bs zs b s g tab D xs w) (h0 : c7 < n₁) (hw : D 4 = true) (u : Value) : OfJ W0 c7 n₁ n kd pt yv zv bs zs b s g tab (fun j => D j || j == 11) (fun j => if j = 11 then u else xs j) (w.setCell ⟨c7, 4, none⟩ (xs 4)) := by
  have hMo : Mod (· = c7) w (w.setCell ⟨c7, 4, none⟩ (xs 4)) := Mod.setCell (S := (· = c7)) (p := ⟨c7, 4, none⟩) (Mod.refl _ _) (.inl rfl) _
  have hy := own_mod h.y hMo (fun k e1 e2 => by have := (own_ge h.y e1).1; omega)
  have hz := own_mod h.z hMo (fun k e1 e2 => by have := (own_ge h.z e1).1; omega)
  refine ⟨h.m.trans hMo (fun k _ e => .inl e), ?_, by simpa using hy, by simpa using hz, by simpa using h.y2, by simpa using h.z2, fun _ e => (by simp [hw] at e), ?_, fun j hj hr => ?_, ?_, ?_, fun _ => by simp [hw], ?_⟩
  · have := heap_set (i := 4) (v := xs 4) h.c
    simpa using this
  · intro h8 h9
    obtain ⟨a, e1, e2, e3⟩ := h.l8 (by simpa using h8) (by simpa using h9)
    refine ⟨a, by simpa using e1, (hMo.block a (lt_of_block e2) (fun e => ?_)).trans e2, e3⟩
    subst e
    have := h.c.symm.trans e2
    simp at this
  · have ej : ¬ j = 11 := by rintro rfl; simp [rdL] at hr
    simp only [if_neg ej]; exact h.v j (by simpa [ej] using hj) hr
  · intro e; obtain ⟨a, b⟩ := h.o4 (by simpa using e); exact ⟨by simp [a], by simp [b]⟩
  · intro e; obtain ⟨a, b⟩ := h.o9 (by simpa using e); exact ⟨by simp [a], by simp [b]⟩
  · intro e; have := h.o13 (by simpa using e); simp [this]
theorem OfJ.st13 (h : OfJ W0 c7 n₁ n kd pt yv zv bs zs b s g tab D xs w) (h0 : c7 < n₁) (hw : D 9 = true) (u : Value) : OfJ W0 c7 n₁ n kd pt yv zv bs zs b s g tab (fun j => D j || j == 13) (fun j => if j = 13 then u else xs j) (w.setCell ⟨c7, 5, none⟩ (xs 9)) := by
  have hMo : Mod (· = c7) w (w.setCell ⟨c7, 5, none⟩ (xs 9)) := Mod.setCell (S := (· = c7)) (p := ⟨c7, 5, none⟩) (Mod.refl _ _) (.inl rfl) _
  have hy := own_mod h.y hMo (fun k e1 e2 => by have := (own_ge h.y e1).1; omega)
  have hz := own_mod h.z hMo (fun k e1 e2 => by have := (own_ge h.z e1).1; omega)
  refine ⟨h.m.trans hMo (fun k _ e => .inl e), ?_, by simpa using hy, by simpa using hz, by simpa using h.y2, by simpa using h.z2, ?_, fun _ e => (by simp [hw] at e), fun j hj hr => ?_, ?_, ?_, ?_, fun _ => by simp [hw]⟩
  · have := heap_set (i := 5) (v := xs 9) h.c
    simpa using this
  · intro h3 h4
    obtain ⟨a, e1, e2, e3⟩ := h.l3 (by simpa using h3) (by simpa using h4)
    refine ⟨a, by simpa using e1, (hMo.block a (lt_of_block e2) (fun e => ?_)).trans e2, e3⟩
    subst e
    have := h.c.symm.trans e2
    simp at this
  · have ej : ¬ j = 13 := by rintro rfl; simp [rdL] at hr
    simp only [if_neg ej]; exact h.v j (by simpa [ej] using hj) hr
  · intro e; obtain ⟨a, b⟩ := h.o4 (by simpa using e); exact ⟨by simp [a], by simp [b]⟩
  · intro e; obtain ⟨a, b⟩ := h.o9 (by simpa using e); exact ⟨by simp [a], by simp [b]⟩
  · intro e; have := h.o11 (by simpa using e); simp [this]
end
end Go.Proofs.YtnngicopphiaaaaGreatDoor.O
