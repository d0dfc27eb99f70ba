/- Part 46 of 51 of a proof: lemmas on the functions that it reaches. -/
import Derived.Test.YtnngicopphiaaaaGreatDoorC45
namespace Go.Proofs.YtnngicopphiaaaaGreatDoor.T
set_option maxRecDepth 8000
open Go.ChangeShapes Go.WideShapes Go.ChangeAt Go.RowKit Go.Burg
open Go.Burg.Lk
namespace Aw
def A0 : ByteArray := ⟨#[97, 0, 0]⟩
def A1 : ByteArray := ⟨#[97, 98, 0, 0]⟩
def V1 : ByteArray := ⟨#[49]⟩
def V2 : ByteArray := ⟨#[50]⟩
def zc : Cel PNd := ⟨false, ⟨.leaf ⟨#[]⟩ ⟨#[]⟩, false, false⟩, 0⟩
def anc (L : List Kd) : Cel PNd := ⟨true, ⟨.inner 5 ⟨#[]⟩ L, true, false⟩, 1⟩
def lf (c v : ByteArray) : Cel PNd := ⟨true, ⟨.leaf c v, false, false⟩, 1⟩
def K2 : List Kd := [⟨0, 1, 1⟩, ⟨98, 2, 1⟩]
def P0 : List (Cel PNd) := [zc, zc, zc, zc, zc, zc, zc, zc, zc]
def P1 : List (Cel PNd) := [anc [], zc, zc, zc, zc, zc, zc, zc, zc]
def P2 : List (Cel PNd) := [anc [⟨97, 1, 1⟩], lf A0 V1, zc, zc, zc, zc, zc, zc, zc]
def P3 : List (Cel PNd) := [anc [⟨97, 3, 1⟩], lf A0 V1, lf A1 V2, ⟨true, ⟨.inner 2 ⟨#[]⟩ K2, false, false⟩, 1⟩, zc, zc, zc, zc, zc]
def P4 : List (Cel PNd) := [anc [⟨97, 1, 1⟩], lf A0 V1, ⟨true, ⟨.leaf A1 V2, false, true⟩, 1⟩, ⟨true, ⟨.inner 2 ⟨#[]⟩ K2, false, true⟩, 1⟩, zc, zc, zc, zc, zc]
theorem codA0 : Coded A0 := ⟨[97], rfl, by decide⟩
theorem codA1 : Coded A1 := ⟨[97, 98], rfl, by decide⟩
theorem rel0 {w : World} : Rel w (List.replicate 9 ⟨false, Nd.zero, 0⟩) P0 := by
  refine ⟨rfl, fun i c hc => ?_⟩
  have hi : i < 9 := by have := (List.getElem?_eq_some_iff.1 hc).1; simpa using this
  have hcz : c = ⟨false, Nd.zero, 0⟩ := by
    rw [List.getElem?_replicate, if_pos hi] at hc
    exact (Option.some.inj hc).symm
  subst hcz
  refine ⟨zc, ?_, rfl, rfl, fun h => by cases h⟩
  rcases (by omega : i = 0 ∨ i = 1 ∨ i = 2 ∨ i = 3 ∨ i = 4 ∨ i = 5 ∨ i = 6 ∨ i = 7 ∨ i = 8) with rfl | rfl | rfl | rfl | rfl | rfl | rfl | rfl | rfl <;> rfl
theorem first_at {P : List (Cel PNd)} (k : Nat) (c : Cel PNd) (h1 : P[k]? = some c) (h2 : c.room = true) (h3 : (P.take k).all (fun d => !d.room) = true) : First P (k : Int) :=
  .inl ⟨k, c, rfl, h1, h2, fun j hj d hd => by
    have := List.all_eq_true.1 h3 d (List.mem_of_getElem? (by rw [List.getElem?_take_of_lt hj]; exact hd))
    simpa using this⟩
theorem s2 : SeekW P1 A0 (0, 1) 0 [] ⟨2, [(0, 1)], 97, 0⟩ :=
  SeekW.bare (r := (0, 1)) (W := []) (i := 0) (q := ⟨.inner 5 ⟨#[]⟩ [], true, false⟩) (k := 5) (pt := ⟨#[]⟩) (L := []) (x := 97) ⟨rfl, anc [], rfl, rfl, rfl, rfl⟩ rfl (Nat.zero_le _) rfl rfl rfl
theorem s3 : SeekW P2 A1 (0, 1) 0 [] ⟨4, [(0, 1), (1, 1)], 0, 1⟩ := by
  have h := SeekW.leaf (P := P2) (c := A1) (r := (1, 1)) (d := 0 + (⟨#[]⟩ : ByteArray).size + 1) (W := [(0, 1)]) (i := 1) (q := ⟨.leaf A0 V1, false, false⟩) (c' := A0) (v := V1) ⟨rfl, lf A0 V1, rfl, rfl, rfl, rfl⟩ rfl (by decide) (by decide)
  exact SeekW.down (r := (0, 1)) (W := []) (i := 0) (q := ⟨.inner 5 ⟨#[]⟩ [⟨97, 1, 1⟩], true, false⟩) (k := 5) (pt := ⟨#[]⟩) (L := [⟨97, 1, 1⟩]) (x := 97) (kk := ⟨97, 1, 1⟩) ⟨rfl, anc [⟨97, 1, 1⟩], rfl, rfl, rfl, rfl⟩ rfl (Nat.zero_le _) rfl rfl rfl h
theorem s4 : SeekW P3 A1 (0, 1) 0 [] ⟨1, [(0, 1), (3, 1), (2, 1)], 0, 2⟩ := by
  have h := SeekW.leaf (P := P3) (c := A1) (r := (2, 1)) (d := 0 + (⟨#[]⟩ : ByteArray).size + 1 + (⟨#[]⟩ : ByteArray).size + 1) (W := [(0, 1), (3, 1)]) (i := 2) (q := ⟨.leaf A1 V2, false, false⟩) (c' := A1) (v := V2) ⟨rfl, lf A1 V2, rfl, rfl, rfl, rfl⟩ rfl (by decide) (by decide)
  have h2 := SeekW.down (P := P3) (c := A1) (r := (3, 1)) (d := 0 + (⟨#[]⟩ : ByteArray).size + 1) (W := [(0, 1)]) (i := 3) (q := ⟨.inner 2 ⟨#[]⟩ K2, false, false⟩) (k := 2) (pt := ⟨#[]⟩) (L := K2) (x := 98) (kk := ⟨98, 2, 1⟩) ⟨rfl, ⟨true, ⟨.inner 2 ⟨#[]⟩ K2, false, false⟩, 1⟩, rfl, rfl, rfl, rfl⟩ rfl (by decide) rfl rfl rfl h
  exact SeekW.down (r := (0, 1)) (W := []) (i := 0) (q := ⟨.inner 5 ⟨#[]⟩ [⟨97, 3, 1⟩], true, false⟩) (k := 5) (pt := ⟨#[]⟩) (L := [⟨97, 3, 1⟩]) (x := 97) (kk := ⟨97, 3, 1⟩) ⟨rfl, anc [⟨97, 3, 1⟩], rfl, rfl, rfl, rfl⟩ rfl (Nat.zero_le _) rfl rfl rfl h2
end Aw
end Go.Proofs.YtnngicopphiaaaaGreatDoor.T

namespace Go.Proofs.YtnngicopphiaaaaGreatDoor.T
set_option maxRecDepth 8000
open Go.ChangeShapes Go.WideShapes Go.ChangeAt Go.RowKit Go.Burg
open Go.Burg.Lk
namespace Aw
structure AwS (w : World) (t sb sg kb km ab : Nat) (P : List (Cel PNd)) (L : List (RefK × Wd)) (W : World) : Prop where
  b : Mod (fun i => w.heap.size ≤ i) w W
  t : TreeP W t sb sg kb km P L 0
  a : W.heap[ab]? = some (.cells #[.int .i64 0, .int .u32 1] 30 (0, 0))
  r : RoomsAt W
  n : w.heap.size ≤ sg ∧ w.heap.size ≤ km ∧ ab ≠ sg ∧ ab ≠ km ∧ ¬ TOwn sg km 0
section
variable {w : World} {t sb sg kb km ab : Nat} {P P' : List (Cel PNd)} {L L' : List (RefK × Wd)} {W W' : World}
theorem AwS.turn (h : AwS w t sb sg kb km ab P L W) (hT : TreeP W' t sb sg kb km P' L' 0) (hM : Mod (TOwn sg km) W W') : AwS w t sb sg kb km ab P' L' W' :=
  ⟨h.b.trans hM (fun i hi e => by have := h.n; rcases e with e | e <;> omega), hT, (hM.block ab (lt_of_block h.a) (by have := h.n; rintro (e | e) <;> omega)).trans h.a, rooms_mod h.r hM h.n.2.2.2.2, h.n⟩
theorem AwS.keep (h : AwS w t sb sg kb km ab P L W) (hb : Below W.heap.size W W') : AwS w t sb sg kb km ab P L W' :=
  ⟨h.b.trans (mod_below hb) (fun _ _ e => e), h.t.keep hb, (hb.block _ (lt_of_block h.a)).trans h.a, h.r.keep hb, h.n⟩
theorem AwS.alloc (h : AwS w t sb sg kb km ab P L W) (o : Obj) : AwS w t sb sg kb km ab P L (W.alloc o) := h.keep ((Below.refl _ _).alloc (Nat.le_refl _) _)
end
def rf (k : Nat) (h : (Lit.int .i64 (k : Int)).wf = true ∧ (Lit.int .u32 1).wf = true) : RefK := ⟨((k : Int), 1), h⟩
def r0 : RefK := ⟨(0, 1), by decide⟩
def r1 : RefK := ⟨(1, 1), by decide⟩
def r2 : RefK := ⟨(2, 1), by decide⟩
def r3 : RefK := ⟨(3, 1), by decide⟩
section
variable {w : World} {t sb sg kb km ab : Nat} {L : List (RefK × Wd)} {W : World}
theorem put_a (h : AwS w t sb sg kb km ab P1 L W) : Calls Tryz.prog 16 #[.pointer (some ⟨t, 0, none⟩), .agg #[.int .i64 0, .int .u32 1], .string A0, .string V1] W fun e w' => e = .returned (.tuple #[.slice none 0 0, .int .i64 0]) ∧ AwS w t sb sg kb km ab P2 (K.addL L r1).2 w' := by
  obtain ⟨l, hT, hR⟩ := h.t
  refine (Put_bare (i := 0) (ir := 0) (j := 1) (k := 5) (slot := 0) (gen := 1) (c := A0) (v := V1) (q := ⟨.inner 5 ⟨#[]⟩ [], true, false⟩) (r := (0, 1)) (pt := ⟨#[]⟩) (Lk := []) (pl := true) (di := false) (pj := zc) W hT hR h.r codA0 (by decide) ⟨rfl, anc [], rfl, rfl, rfl, rfl⟩ rfl s2 rfl rfl ⟨rfl, anc [], rfl, rfl, rfl, rfl⟩ rfl (first_at 1 zc rfl rfl rfl) rfl rfl (by decide) (by decide) (by unfold Kd.ok; decide) rfl (by decide) (by decide) h.n.2.2.2.2 (.inr ⟨rfl, rfl⟩) r1 rfl rfl).mono ?_
  rintro e w' ⟨e1, hT', hM⟩
  exact ⟨e1, h.turn hT' hM⟩
theorem put_ab (h : AwS w t sb sg kb km ab P2 L W) : Calls Tryz.prog 16 #[.pointer (some ⟨t, 0, none⟩), .agg #[.int .i64 0, .int .u32 1], .string A1, .string V2] W fun e w' => e = .returned (.tuple #[.slice none 0 0, .int .i64 0]) ∧ AwS w t sb sg kb km ab P3 (K.addL (K.addL L r2).2 r3).2 w' := by
  obtain ⟨l, hT, hR⟩ := h.t
  refine (Put_fork4 (P2 := P3) (L2 := (K.addL (K.addL L r2).2 r3).2) (i := 0) (ir := 1) (j := 2) (slot := 0) (gen := 1) (c := A1) (v := V2) (q := ⟨.inner 5 ⟨#[]⟩ [⟨97, 1, 1⟩], true, false⟩) (qr := ⟨.leaf A0 V1, false, false⟩) (r := (1, 1)) (pj := zc) W hT hR h.r codA1 (by decide) ⟨rfl, anc [⟨97, 1, 1⟩], rfl, rfl, rfl, rfl⟩ rfl s3 rfl (by decide) rfl ⟨rfl, lf A0 V1, rfl, rfl, rfl, rfl⟩ (first_at 2 zc rfl rfl rfl) rfl rfl (by decide) h.n.2.2.2.2 r2 rfl rfl (fun W' b g wc hT' hr' hs' hnb => ?_)).mono ?_
  · exact tfork_leaf (ir := 1) (iu := 0) (j := 3) (jj := 0) (k := 5) (c := A1) (cd := A0) (vl := V1) (pt := ⟨#[]⟩) (r := (1, 1)) (u0 := (0, 1)) (lf := (2, 1)) (Lk := [⟨97, 1, 1⟩]) (pl := true) (di := false) (plr := false) (dir := false) (pj := zc) (kk := ⟨97, 1, 1⟩) (x := 98) (y := 0) W' hT' hr' h.n.2.2.2.2 hs' rfl hnb (by decide) rfl (by decide) rfl ⟨rfl, lf A0 V1, rfl, rfl, rfl, rfl⟩ ⟨rfl, anc [⟨97, 1, 1⟩], rfl, rfl, rfl, rfl⟩ (first_at 3 zc rfl rfl rfl) rfl rfl (by decide) r3 rfl rfl (by decide) rfl rfl (by decide) (by decide) (by decide) (by unfold Kd.ok; decide) (by unfold Kd.ok; decide) rfl rfl rfl rfl (fun i k hi => by omega) (by unfold Kd.ok; decide)
  · rintro e w' ⟨e1, hT', hM⟩
    exact ⟨e1, h.turn hT' hM⟩
theorem plan_ab (h : AwS w t sb sg kb km ab P3 L W) : Calls Tryz.prog 17 #[.pointer (some ⟨t, 0, none⟩), .agg #[.int .i64 0, .int .u32 1], .string A1, .bool false] W fun e w' => ∃ la ln lc da dn dc, e = .returned (.tuple #[.agg #[.slice la ln lc, .slice da dn dc, .int .i64 0], .int .i64 0]) ∧ ((∃ a c, (.slice la ln lc : Value) = .slice a 3 c) ∧ ∃ a c, (.slice da dn dc : Value) = .slice a 2 c) ∧ Below W.heap.size W w' := by
  obtain ⟨l, hT, hR⟩ := h.t
  refine Plan_drop (i := 0) (slot := 0) (gen := 1) (c := A1) (q := ⟨.inner 5 ⟨#[]⟩ [⟨97, 3, 1⟩], true, false⟩) W hT hR h.r codA1 ⟨rfl, anc [⟨97, 3, 1⟩], rfl, rfl, rfl, rfl⟩ rfl s4 rfl (fun _ lv dv => (∃ a c, lv = .slice a 3 c) ∧ ∃ a c, dv = .slice a 2 c) (fun _ _ _ _ _ _ _ h _ _ => h) (fun w1 b g wc hb1 hsa hwc _ _ => ?_)
  refine (goes_two (iu := 3) (iz := 1) (k := 2) (pt := ⟨#[]⟩) (cz := A0) (vz := V1) (r := (2, 1)) (u0 := (3, 1)) (v0 := (0, 1)) (ka := ⟨0, 1, 1⟩) (kz := ⟨98, 2, 1⟩) (kx := ⟨0, 1, 1⟩) (di := false) (plz := false) (diz := false) w1 (h.t.keep hb1) hsa hwc rfl (by decide) rfl rfl ⟨rfl, ⟨true, ⟨.inner 2 ⟨#[]⟩ K2, false, false⟩, 1⟩, rfl, rfl, rfl, rfl⟩ (.inr ⟨by decide, rfl⟩) ⟨rfl, lf A0 V1, rfl, rfl, rfl, rfl⟩).mono ?_
  rintro e w' ⟨g1, c1, a1, rfl, _, _, _, hb⟩
  exact ⟨_, _, _, _, _, _, rfl, ⟨⟨_, _, rfl⟩, ⟨_, _, rfl⟩⟩, hb⟩
theorem drop_ab (h : AwS w t sb sg kb km ab P3 L W) : Calls Tryz.prog 19 #[.pointer (some ⟨t, 0, none⟩), .agg #[.int .i64 0, .int .u32 1], .string A1] W fun e w' => ∃ a, e = .returned (.tuple #[.slice (some ⟨a, 0, none⟩) 2 2, .int .i64 0]) ∧ AwS w t sb sg kb km ab P4 L w' ∧ Mod (TOwn sg km) W w' := by
  obtain ⟨l, hT, hR⟩ := h.t
  have hp : Calls Tryz.prog 17 #[.pointer (some ⟨t, 0, none⟩), .agg #[.int .i64 0, .int .u32 1], .string A1, .bool false] (W.alloc (.cells #[.int .i64 0, .int .u32 1] 30 (0, 0))) fun e w' => ∃ la ln lc da dn dc, e = .returned (.tuple #[.agg #[.slice la ln lc, .slice da dn dc, .int .i64 0], .int .i64 0]) ∧ (∃ a c, (.slice da dn dc : Value) = .slice a 2 c) ∧ Below (W.alloc (.cells #[.int .i64 0, .int .u32 1] 30 (0, 0))).heap.size (W.alloc (.cells #[.int .i64 0, .int .u32 1] 30 (0, 0))) w' := by
    refine (plan_ab (h.alloc (.cells #[.int .i64 0, .int .u32 1] 30 (0, 0)))).mono ?_
    rintro e w' ⟨la, ln, lc, da, dn, dc, h1, h2, h3⟩
    exact ⟨la, ln, lc, da, dn, dc, h1, h2.2, h3⟩
  refine (Drop_two (i := 0) (iu := 3) (iz := 1) (iv := 0) (jj := 1) (jv := 0) (k := 2) (kv := 5) (slot := 0) (gen := 1) (c := A1) (pt := ⟨#[]⟩) (cz := A0) (vz := V1) (ptv := ⟨#[]⟩) (q := ⟨.inner 5 ⟨#[]⟩ [⟨97, 3, 1⟩], true, false⟩) (r := (2, 1)) (u0 := (3, 1)) (v0 := (0, 1)) (ka := ⟨0, 1, 1⟩) (kz := ⟨98, 2, 1⟩) (kk := ⟨98, 2, 1⟩) (kx := ⟨0, 1, 1⟩) (kkv := ⟨97, 3, 1⟩) (Lv := [⟨97, 3, 1⟩]) (di := false) (plz := false) (diz := false) (plv := true) (div_ := false) W hT hR h.r codA1 ⟨rfl, anc [⟨97, 3, 1⟩], rfl, rfl, rfl, rfl⟩ rfl s4 rfl (by decide) rfl rfl rfl ⟨rfl, ⟨true, ⟨.inner 2 ⟨#[]⟩ K2, false, false⟩, 1⟩, rfl, rfl, rfl, rfl⟩ rfl rfl rfl (fun i k hi hk => ?_) rfl rfl ⟨rfl, lf A0 V1, rfl, rfl, rfl, rfl⟩ ⟨rfl, anc [⟨97, 3, 1⟩], rfl, rfl, rfl, rfl⟩ rfl rfl rfl rfl (fun i k hi => by omega) (by unfold Kd.ok; decide) ⟨2, ⟨.leaf A1 V2, false, false⟩, rfl, lf A1 V2, rfl, rfl, rfl, rfl⟩ (fun e => h.n.2.2.2.2 (.inl e)) hp).mono ?_
  · obtain rfl : i = 0 := by omega
    cases hk
    decide
  · rintro e w' ⟨a, e1, _, _, hT', hM⟩
    have hM' : Mod (TOwn sg km) W w' := ⟨hM.os, hM.tape, hM.output, hM.size, fun k hk hn => hM.block k hk (fun e => hn (.inl e))⟩
    exact ⟨a, e1, h.turn hT' hM', hM'⟩
end
end Aw
end Go.Proofs.YtnngicopphiaaaaGreatDoor.T

namespace Go.Proofs.YtnngicopphiaaaaGreatDoor.T
set_option maxRecDepth 8000
open Go.ChangeShapes Go.WideShapes Go.ChangeAt Go.RowKit Go.Burg
open Go.Burg.Lk
namespace Aw
theorem plant0 {w : World} {t sb sg kb km : Nat} (h : TreeP w t sb sg kb km P0 [] 0) : Calls Tryz.prog 6 #[.pointer (some ⟨t, 0, none⟩)] w fun e w' => e = .returned (.tuple #[.agg #[.int .i64 0, .int .u32 1], .int .i64 0]) ∧ TreeP w' t sb sg kb km P1 (K.addL [] r0).2 0 ∧ Mod (TOwn sg km) w w' := by
  refine (Plant_P (j := 0) (pj := zc) w h (first_at 0 zc rfl rfl rfl) rfl rfl r0 rfl rfl).mono ?_
  rintro e w' ⟨e1, hT, hM⟩
  exact ⟨e1, hT, hM⟩
set_option maxRecDepth 20000 in
set_option maxHeartbeats 4000000 in
theorem awake_any (w : World) (hr : RoomsAt w) : Calls Tryz.prog 4 #[] w fun e w' => e = .returned (.bool true) ∧ Below w.heap.size w w' := by
  have H0 := hid (tNew_at 9 w (by omega) (by omega))
  have HR := hid hr
  clear hr
  go_enter Tryz.func4, Tryz.ntmps4
  go_wp2_with fail
  refine H0.out.mono ?_
  rintro e w1 ⟨t, sb, sg, kb, km, rfl, hT, hl, hb⟩
  have HPN := hid (plant0 (⟨_, hT, rel0⟩ : TreeP w1 t sb sg kb km P0 [] 0))
  have HL := hid (And.intro hl (And.intro hb (And.intro (lt_of_block hT.ht) (And.intro hT.hs.glt hT.hk.lt.2))))
  clear hT hl hb H0
  go_wp2_with fail
  refine HPN.out.mono ?_
  rintro e w2 ⟨rfl, hT2, hM2⟩
  have hS2 : AwS w t sb sg kb km w2.heap.size P1 (K.addL [] r0).2 (w2.alloc (.cells #[.int .i64 0, .int .u32 1] 30 (0, 0))) := by
    obtain ⟨hl, hb, l1, l2, l3⟩ := HL.out
    have hs := hM2.size
    have hr0 := HR.out.lt
    have hb2 : Below w2.heap.size w2 (w2.alloc (.cells #[.int .i64 0, .int .u32 1] 30 (0, 0))) := (Below.refl _ _).alloc (Nat.le_refl _) _
    have hn : ¬ TOwn sg km 0 := by rintro (e | e) <;> omega
    refine ⟨((Mod.ofBelow hb).trans hM2 (fun i hi e => by rcases e with e | e <;> omega)).trans (mod_below hb2) (fun _ _ e => e), hT2.keep hb2, heap_new _ _, (rooms_mod (HR.out.keep hb) hM2 hn).keep hb2, by omega, by omega, by omega, by omega, hn⟩
  have HS2 := hid hS2
  have HPA := hid (put_a hS2)
  have a0 := cell_of HS2.out.a 0
  have a1 := cell_of HS2.out.a 1
  clear hT2 hM2 hS2 HPN HL
  go_wp2_with fail
  refine HPA.out.mono ?_
  rintro e w3 ⟨rfl, hS3⟩
  have HS3 := hid hS3
  have HPB := hid (put_ab hS3)
  clear a0 a1 hS3 HPA HS2
  have a0 := cell_of HS3.out.a 0
  have a1 := cell_of HS3.out.a 1
  go_wp2_with fail
  refine HPB.out.mono ?_
  rintro e w4 ⟨rfl, hS4⟩
  have HS4 := hid hS4
  have HPC := hid (plan_ab hS4)
  clear a0 a1 hS4 HPB HS3
  have a0 := cell_of HS4.out.a 0
  have a1 := cell_of HS4.out.a 1
  go_wp2_with fail
  refine HPC.out.mono ?_
  rintro e w5 ⟨la, ln, lc, da, dn, dc, rfl, ⟨⟨xa, xc, hlv⟩, ⟨ya, yc, hdv⟩⟩, hb5⟩
  have hln : ln = 3 := by injection hlv
  have hdn : dn = 2 := by injection hdv
  subst hln hdn
  have hc5 := heap_new w5 (.cells #[.slice la 3 lc, .slice da 2 dc, .int .i64 0] 47 (0, 0))
  have hS5 := (HS4.out.keep hb5).alloc (.cells #[.slice la 3 lc, .slice da 2 dc, .int .i64 0] 47 (0, 0))
  have HC5 := hid hc5
  have HS5 := hid hS5
  have HN5 := hid (Node_inner (i := 0) (k := 5) (pt := ⟨#[]⟩) (Lk := [⟨97, 3, 1⟩]) (pl := true) (di := false) 0 1 (w5.alloc (.cells #[.slice la 3 lc, .slice da 2 dc, .int .i64 0] 47 (0, 0))) hS5.t ⟨rfl, anc [⟨97, 3, 1⟩], rfl, rfl, rfl, rfl⟩ (by decide))
  clear a0 a1 hlv hdv hb5 hc5 hS5 HPC HS4
  have a0 := cell_of HS5.out.a 0
  have a1 := cell_of HS5.out.a 1
  go_wp2_with fail
  refine HN5.out.mono ?_
  rintro e w6 ⟨y1, yc1, z1, zc1, rfl, hy1, hz1, hb6⟩
  have hz6 := O.own_cells (own_le hz1 (Nat.zero_le _)) (by decide)
  obtain ⟨gz, egz, lz, cz⟩ := hz6
  obtain rfl : z1 = gz := by injection egz with egz; injection egz
  have c6 := (hb6.block _ (lt_of_block HC5.out)).trans HC5.out
  have hS6 := (HS5.out.keep hb6).alloc (.cells #[.int .i64 5, .string ⟨#[]⟩, .string ⟨#[]⟩, .string ⟨#[]⟩, .slice (some ⟨y1, 0, none⟩) 1 yc1, .slice (some ⟨z1, 0, none⟩) 1 zc1] 53 (0, 0))
  have HC6 := hid (blk_alloc (o' := (.cells #[.int .i64 5, .string ⟨#[]⟩, .string ⟨#[]⟩, .string ⟨#[]⟩, .slice (some ⟨y1, 0, none⟩) 1 yc1, .slice (some ⟨z1, 0, none⟩) 1 zc1] 53 (0, 0))) c6)
  have HT6 := hid (heap_new w6 (.cells #[.int .i64 5, .string ⟨#[]⟩, .string ⟨#[]⟩, .string ⟨#[]⟩, .slice (some ⟨y1, 0, none⟩) 1 yc1, .slice (some ⟨z1, 0, none⟩) 1 zc1] 53 (0, 0)))
  have k0 := (World.cell?_of_block (w := w6) (Below.heap_alloc w6 (.cells #[.int .i64 5, .string ⟨#[]⟩, .string ⟨#[]⟩, .string ⟨#[]⟩, .slice (some ⟨y1, 0, none⟩) 1 yc1, .slice (some ⟨z1, 0, none⟩) 1 zc1] 53 (0, 0)) _ lz)).trans (cz 0 _ rfl)
  have k1 := (World.cell?_of_block (w := w6) (Below.heap_alloc w6 (.cells #[.int .i64 5, .string ⟨#[]⟩, .string ⟨#[]⟩, .string ⟨#[]⟩, .slice (some ⟨y1, 0, none⟩) 1 yc1, .slice (some ⟨z1, 0, none⟩) 1 zc1] 53 (0, 0)) _ lz)).trans (cz 1 _ rfl)
  have t5 := cell_of HT6.out 5
  have p0 := cell_of HC6.out 0
  have p1 := cell_of HC6.out 1
  have HS6 := hid hS6
  have HNN := hid (Node_inner (i := 3) (k := 2) (pt := ⟨#[]⟩) (Lk := [⟨0, 1, 1⟩, ⟨98, 2, 1⟩]) (pl := false) (di := false) 3 1 (w6.alloc (.cells #[.int .i64 5, .string ⟨#[]⟩, .string ⟨#[]⟩, .string ⟨#[]⟩, .slice (some ⟨y1, 0, none⟩) 1 yc1, .slice (some ⟨z1, 0, none⟩) 1 zc1] 53 (0, 0))) hS6.t ⟨rfl, ⟨true, ⟨.inner 2 ⟨#[]⟩ K2, false, false⟩, 1⟩, rfl, rfl, rfl, rfl⟩ (by decide))
  clear a0 a1 hy1 hz1 hb6 egz lz cz c6 hS6 HN5 HS5 HC5
  go_wp2_with fail
  refine HNN.out.mono ?_
  rintro e w7 ⟨y2, yc2, z2, zc2, rfl, hy2, hz2, hb7⟩
  have hb67 : Below w6.heap.size w6 w7 := ((Below.refl _ _).alloc (Nat.le_refl _) _).trans (hb7.mono (by simp))
  have hS7 := (HS6.out.keep hb7).alloc (.cells #[.int .i64 2, .string ⟨#[]⟩, .string ⟨#[]⟩, .string ⟨#[]⟩, .slice (some ⟨y2, 0, none⟩) 2 yc2, .slice (some ⟨z2, 0, none⟩) 2 zc2] 53 (0, 0))
  have hn7 := heap_new w7 (.cells #[.int .i64 2, .string ⟨#[]⟩, .string ⟨#[]⟩, .string ⟨#[]⟩, .slice (some ⟨y2, 0, none⟩) 2 yc2, .slice (some ⟨z2, 0, none⟩) 2 zc2] 53 (0, 0))
  have hy7 := hy2.alloc (o := (.cells #[.int .i64 2, .string ⟨#[]⟩, .string ⟨#[]⟩, .string ⟨#[]⟩, .slice (some ⟨y2, 0, none⟩) 2 yc2, .slice (some ⟨z2, 0, none⟩) 2 zc2] 53 (0, 0)))
  have HN7 := hid hn7
  have HY7 := hid (own_le hy7 (Nat.zero_le _))
  have HS7 := hid hS7
  have HD7 := hid (drop_ab hS7)
  have hnt : ¬ TOwn sg km w7.heap.size := by
    have h1 := hS7.n
    have h2 := (HS6.out.keep hb7).t.lt
    rintro (e | e) <;> omega
  have hyt : ¬ TOwn sg km y2 := by
    have h2 := HS6.out.t.lt
    have h3 := (show _ ≤ y2 from (O.own_ge hy2 rfl).1)
    rintro (e | e) <;> omega
  have HNT := hid (And.intro hnt hyt)
  clear k0 k1 t5 p0 p1 hy2 hz2 hb7 hb67 hS7 hn7 hy7 HNN HS6 HT6 HC6 hnt hyt
  have a0 := cell_of HS7.out.a 0
  have a1 := cell_of HS7.out.a 1
  go_wp2_with fail
  refine HD7.out.mono ?_
  rintro e w8 ⟨d8, rfl, hS8, hM8⟩
  have HS8 := hid hS8
  have hn8 := (hM8.block _ (lt_of_block HN7.out) HNT.out.1).trans HN7.out
  have hy8 := O.own_mod HY7.out hM8 (fun k hk e => by simp only [Value.ownBlock, Option.some.injEq] at hk; subst hk; exact HNT.out.2 e)
  have HN8 := hid (Node_inner (i := 0) (k := 5) (pt := ⟨#[]⟩) (Lk := [⟨97, 1, 1⟩]) (pl := true) (di := false) 0 1 w8 hS8.t ⟨rfl, anc [⟨97, 1, 1⟩], rfl, rfl, rfl, rfl⟩ (by decide))
  have HX8 := hid (And.intro hn8 hy8)
  clear a0 a1 hS8 hM8 hn8 hy8 HD7 HS7 HN7 HY7 HNT
  have a0 := cell_of HS8.out.a 0
  have a1 := cell_of HS8.out.a 1
  go_wp2_with fail
  refine HN8.out.mono ?_
  rintro e w9 ⟨y3, yc3, z3, zc3, rfl, hy3, hz3, hb9⟩
  have hz9 := O.own_cells (own_le hz3 (Nat.zero_le _)) (by decide)
  obtain ⟨gz, egz, lz, cz⟩ := hz9
  obtain rfl : z3 = gz := by injection egz with egz; injection egz
  have hb9a : Below w9.heap.size w9 (w9.alloc (.cells #[.int .i64 5, .string ⟨#[]⟩, .string ⟨#[]⟩, .string ⟨#[]⟩, .slice (some ⟨y3, 0, none⟩) 1 yc3, .slice (some ⟨z3, 0, none⟩) 1 zc3] 53 (0, 0))) := (Below.refl _ _).alloc (Nat.le_refl _) _
  have hb8a := hb9.trans (hb9a.mono hb9.size)
  have hn9 := (hb8a.block _ (lt_of_block HX8.out.1)).trans HX8.out.1
  have hy9 : (w9.alloc (.cells #[.int .i64 5, .string ⟨#[]⟩, .string ⟨#[]⟩, .string ⟨#[]⟩, .slice (some ⟨y3, 0, none⟩) 1 yc3, .slice (some ⟨z3, 0, none⟩) 1 zc3] 53 (0, 0))).ownsRow 0 5 1 (.slice (some ⟨y2, 0, none⟩) 2 yc2) 2 (u8L [0, 98]) := O.own_mod HX8.out.2 (mod_below (S := fun _ => False) hb8a) (fun _ _ e => e)
  have hst := Go.Proofs.YtnngicopphiaaaaGreatDoor.D.own_string hy9
  have hl9 := heap_new w9 (.cells #[.int .i64 5, .string ⟨#[]⟩, .string ⟨#[]⟩, .string ⟨#[]⟩, .slice (some ⟨y3, 0, none⟩) 1 yc3, .slice (some ⟨z3, 0, none⟩) 1 zc3] 53 (0, 0))
  have k0 := (World.cell?_of_block (w := w9) (Below.heap_alloc w9 (.cells #[.int .i64 5, .string ⟨#[]⟩, .string ⟨#[]⟩, .string ⟨#[]⟩, .slice (some ⟨y3, 0, none⟩) 1 yc3, .slice (some ⟨z3, 0, none⟩) 1 zc3] 53 (0, 0)) _ lz)).trans (cz 0 _ rfl)
  have k1 := (World.cell?_of_block (w := w9) (Below.heap_alloc w9 (.cells #[.int .i64 5, .string ⟨#[]⟩, .string ⟨#[]⟩, .string ⟨#[]⟩, .slice (some ⟨y3, 0, none⟩) 1 yc3, .slice (some ⟨z3, 0, none⟩) 1 zc3] 53 (0, 0)) _ lz)).trans (cz 1 _ rfl)
  have n0 := cell_of hn9 0
  have n3 := cell_of hn9 3
  have n4 := cell_of hn9 4
  have t5 := cell_of hl9 5
  have hS9 := (HS8.out.keep hb9).alloc (.cells #[.int .i64 5, .string ⟨#[]⟩, .string ⟨#[]⟩, .string ⟨#[]⟩, .slice (some ⟨y3, 0, none⟩) 1 yc3, .slice (some ⟨z3, 0, none⟩) 1 zc3] 53 (0, 0))
  have HS9 := hid hS9
  have HNL := hid (Node_leaf (i := 1) (cd := A0) (v := V1) (pl := false) (di := false) 1 1 (w9.alloc (.cells #[.int .i64 5, .string ⟨#[]⟩, .string ⟨#[]⟩, .string ⟨#[]⟩, .slice (some ⟨y3, 0, none⟩) 1 yc3, .slice (some ⟨z3, 0, none⟩) 1 zc3] 53 (0, 0))) hS9.t ⟨rfl, lf A0 V1, rfl, rfl, rfl, rfl⟩)
  clear a0 a1 hy3 hz3 hb9 egz lz cz hb9a hb8a hn9 hy9 hl9 hS9 HN8 HS8 HX8
  go_wp2_with fail
  refine HNL.out.mono ?_
  rintro e w10 ⟨y4, yc4, z4, zc4, rfl, hb10⟩
  have hS10 := (HS9.out.keep hb10).alloc (.cells #[.int .i64 1, .string A0, .string V1, .string ⟨#[]⟩, .slice y4 0 yc4, .slice z4 0 zc4] 53 (0, 0))
  have hl10 := heap_new w10 (.cells #[.int .i64 1, .string A0, .string V1, .string ⟨#[]⟩, .slice y4 0 yc4, .slice z4 0 zc4] 53 (0, 0))
  have q0 := cell_of hl10 0
  have q1 := cell_of hl10 1
  have hrm : roomN P4 = 5 := rfl
  have HRM := hid (Room_P (w10.alloc (.cells #[.int .i64 1, .string A0, .string V1, .string ⟨#[]⟩, .slice y4 0 yc4, .slice z4 0 zc4] 53 (0, 0))) hS10.t)
  rw [hrm] at HRM
  have HS10 := hid hS10
  have hd1 : A0.toList = [97, 0, 0] := by rw [ByteArray.toList_eq]; rfl
  have hd2 : (A0.toList == [97, 0, 0]) = true := by rw [hd1]; rfl
  clear hst k0 k1 n0 n3 n4 t5 hb10 hl10 hS10 HNL HS9 hrm
  go_wp2_with (go_at_call 20; refine HRM.out.mono ?_; rintro e w11 ⟨rfl, hb11⟩)
  go_ret
  refine ⟨rfl, ?_⟩
  have hm := HS10.out.b.trans (mod_below hb11) (fun _ _ e => e)
  exact hm.below (Nat.le_refl _) (fun k hk e => by have e2 : w.heap.size ≤ k := e; omega)
end Aw
end Go.Proofs.YtnngicopphiaaaaGreatDoor.T
