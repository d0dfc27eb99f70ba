/- Part 13 of 26. -/
import Derived.Test.YtgdmfledhhoedaaGreatDoorC02
import Derived.Test.YtgdmfledhhoedaaGreatDoorC01
import Derived.Test.YtgdmfledhhoedaaGreatDoorC12
import Derived.Test.YtgdmfledhhoedaaGreatDoorC08
import Derived.Laws.ResultCell
import Derived.Maps.OwnOps
import Derived.Test.YtgdmfledhhoedaaGreatDoorC10
namespace Go.Burg
open Go Go.RowKit
structure GJ (T : TypeId) (F : World -> Value -> Prop) (W0 : World) (c4 iL iS : Nat) (fx fd : List Nat) (R : List (Nat × Nat)) (tab : Nat -> Value) (td : Nat -> Value -> Value) (o0 : Array Value) (o1 : Value -> Array Value) (D : Nat -> Bool) (xs : Nat -> Value) (w : World) : Prop where
 m : Mod (· = c4) W0 w
 l : D iL = true -> F w (xs iL)
 v : ∀ j, D j = true -> j ∈ fx -> xs j = tab j
 e : ∀ j, D j = true -> j ∈ fd -> D iL = true /\ xs j = td j (xs iL)
 s : D iS = true -> D iL = true
 c : w.heap[c4]? = some (.cells (cond (D iS) (o1 (xs iL)) o0) T (0, 0))
 p : ∀ i j, (i, j) ∈ R -> D i = true -> D j = true
def GKeeps (F : World -> Value -> Prop) (c4 : Nat) : Prop := ∀ w w' v, F w v -> Mod (· = c4) w w' -> F w' v
section
variable {T : TypeId} {F : World -> Value -> Prop} {W0 w w' : World} {c4 iL iS : Nat} {fx fd : List Nat} {R : List (Nat × Nat)} {tab : Nat -> Value} {td : Nat -> Value -> Value} {o0 : Array Value} {o1 : Value -> Array Value} {D : Nat -> Bool} {xs : Nat -> Value}
theorem z1b {S : Nat -> Prop} (h : Below w.heap.size w w') : Mod S w w' := ⟨h.os, h.tape, h.output, h.size, fun k hk _ => h.block k hk⟩
theorem GJ.start (hc : W0.heap[c4]? = some (.cells o0 T (0, 0))) : GJ T F W0 c4 iL iS fx fd R tab td o0 o1 (fun _ => false) (fun _ => undef) W0.drew :=
 ⟨(Mod.refl _ _).drew, fun h => (by cases h), fun j h => (by cases h), fun j h => (by cases h), fun h => (by cases h), hc, fun _ _ _ h => (by cases h)⟩
theorem GJ.pp (h : GJ T F W0 c4 iL iS fx fd R tab td o0 o1 D xs w) {i : Nat} (hp : ∀ j, (i, j) ∈ R -> D j = true) : ∀ a b, (a, b) ∈ R -> (D a || a == i) = true -> (D b || b == i) = true := fun a b hab ha => by
 simp only [Bool.or_eq_true, beq_iff_eq] at ha ⊢
 rcases ha with ha | rfl
 ·exact .inl (h.p a b hab ha)
 ·exact .inl (hp b hab)
theorem GJ.calm (hF : GKeeps F c4) (h : GJ T F W0 c4 iL iS fx fd R tab td o0 o1 D xs w) {i : Nat} {u : Value} (hb : Below w.heap.size w w') (hp : ∀ j, (i, j) ∈ R -> D j = true := by intro j h; exact absurd h (by simp)) (h1 : i ≠ iL := by decide) (h2 : i ≠ iS := by decide) (h3 : i ∉ fd := by decide) (hu : i ∈ fx -> u = tab i := by intro h; cases h) : GJ T F W0 c4 iL iS fx fd R tab td o0 o1 (fun j => D j || j == i) (fun j => if j = i then u else xs j) w' := by
 have hn : ¬ iL = i := fun e => h1 e.symm
 have hs : ¬ iS = i := fun e => h2 e.symm
 have eL : (D iL || iL == i) = D iL := by simp [hn]
 have eS : (D iS || iS == i) = D iS := by simp [hs]
 refine ⟨h.m.trans (z1b hb) (fun _ _ e => e), fun e => ?_, fun j hj hr => ?_, fun j hj hr => ?_, fun e => ?_, ?_, h.pp hp⟩
 ·simp only [if_neg hn]
  exact hF _ _ _ (h.l (by rwa [eL] at e)) (z1b hb)
 ·by_cases e : j = i
  ·subst e; simp only [if_pos]; exact hu hr
  ·simp only [if_neg e]; exact h.v j (by simpa [e] using hj) hr
 ·have e : ¬ j = i := fun e => h3 (e ▸ hr)
  obtain ⟨a, b⟩ := h.e j (by simpa [e] using hj) hr
  simp only [if_neg e, if_neg hn, eL]
  exact ⟨a, b⟩
 ·rw [eL]; exact h.s (by rwa [eS] at e)
 ·simp only [eS, if_neg hn]
  exact (hb.block c4 (lt_of_block h.c)).trans h.c
theorem GJ.dep (h : GJ T F W0 c4 iL iS fx fd R tab td o0 o1 D xs w) {i : Nat} {u : Value} (hL : D iL = true) (hu : u = td i (xs iL)) (hp : ∀ j, (i, j) ∈ R -> D j = true := by intro j h; exact absurd h (by simp)) (h1 : i ≠ iL := by decide) (h2 : i ≠ iS := by decide) (h3 : i ∉ fx := by decide) : GJ T F W0 c4 iL iS fx fd R tab td o0 o1 (fun j => D j || j == i) (fun j => if j = i then u else xs j) w := by
 have hn : ¬ iL = i := fun e => h1 e.symm
 have hs : ¬ iS = i := fun e => h2 e.symm
 have eL : (D iL || iL == i) = D iL := by simp [hn]
 have eS : (D iS || iS == i) = D iS := by simp [hs]
 refine ⟨h.m, fun e => ?_, fun j hj hr => ?_, fun j hj hr => ?_, fun e => ?_, ?_, h.pp hp⟩
 ·simp only [if_neg hn]; exact h.l hL
 ·have e : ¬ j = i := fun e => h3 (e ▸ hr)
  simp only [if_neg e]; exact h.v j (by simpa [e] using hj) hr
 ·by_cases e : j = i
  ·subst e; simp only [if_pos, if_neg hn, eL]; exact ⟨hL, hu⟩
  ·obtain ⟨a, b⟩ := h.e j (by simpa [e] using hj) hr
   simp only [if_neg e, if_neg hn, eL]
   exact ⟨a, b⟩
 ·rw [eL]; exact hL
 ·simp only [eS, if_neg hn]; exact h.c
theorem GJ.call (h : GJ T F W0 c4 iL iS fx fd R tab td o0 o1 D xs w) (hD : D iL = false) {u : Value} (hu : F w' u) (hb : Below w.heap.size w w') (hp : ∀ j, (iL, j) ∈ R -> D j = true := by intro j h; exact absurd h (by simp)) (hne : iL ≠ iS := by decide) (hf : iL ∉ fx := by decide) (hd : iL ∉ fd := by decide) : GJ T F W0 c4 iL iS fx fd R tab td o0 o1 (fun j => D j || j == iL) (fun j => if j = iL then u else xs j) w' := by
 have hs : ¬ iS = iL := fun e => hne e.symm
 have eS : (D iS || iS == iL) = D iS := by simp [hs]
 have hSf : D iS = false := by
  cases e : D iS
  ·rfl
  ·rw [h.s e] at hD; cases hD
 refine ⟨h.m.trans (z1b hb) (fun _ _ e => e), fun e => ?_, fun j hj hr => ?_, fun j hj hr => ?_, fun e => by simp, ?_, h.pp hp⟩
 ·simp only [if_pos]; exact hu
 ·have e : ¬ j = iL := fun e => hf (e ▸ hr)
  simp only [if_neg e]; exact h.v j (by simpa [e] using hj) hr
 ·have e : ¬ j = iL := fun e => hd (e ▸ hr)
  have := (h.e j (by simpa [e] using hj) hr).1
  rw [hD] at this; cases this
 ·have e2 : (D iS || iS == iL) = false := by rw [eS, hSf]
  simp only [e2, cond_false]
  have := h.c
  rw [hSf] at this
  exact (hb.block c4 (lt_of_block h.c)).trans this
theorem GJ.store (hF : GKeeps F c4) (h : GJ T F W0 c4 iL iS fx fd R tab td o0 o1 D xs w) (hL : D iL = true) {u : Value} (hm : Mod (· = c4) w w') (hc : w'.heap[c4]? = some (.cells (o1 (xs iL)) T (0, 0))) (hp : ∀ j, (iS, j) ∈ R -> D j = true := by intro j h; exact absurd h (by simp)) (hne : iL ≠ iS := by decide) (hf : iS ∉ fx := by decide) (hd : iS ∉ fd := by decide) : GJ T F W0 c4 iL iS fx fd R tab td o0 o1 (fun j => D j || j == iS) (fun j => if j = iS then u else xs j) w' := by
 have hn : ¬ iL = iS := hne
 have eL : (D iL || iL == iS) = D iL := by simp [hn]
 refine ⟨h.m.trans hm (fun _ _ e => e), fun e => ?_, fun j hj hr => ?_, fun j hj hr => ?_, fun e => ?_, ?_, h.pp hp⟩
 ·simp only [if_neg hn]; exact hF _ _ _ (h.l hL) hm
 ·have e : ¬ j = iS := fun e => hf (e ▸ hr)
  simp only [if_neg e]; exact h.v j (by simpa [e] using hj) hr
 ·have e : ¬ j = iS := fun e => hd (e ▸ hr)
  obtain ⟨a, b⟩ := h.e j (by simpa [e] using hj) hr
  simp only [if_neg e, if_neg hn, eL]
  exact ⟨a, b⟩
 ·rw [eL]; exact hL
 ·simp only [if_neg hn, beq_self_eq_true, Bool.or_true, cond_true]; exact hc
end
end Go.Burg
namespace Go.Proofs.YtgdmfledhhoedaaGreatDoor.T
set_option maxRecDepth 8000
open Go.ChangeShapes Go.WideShapes Go.ChangeAt Go.RowKit Go.Burg
open Go.Burg.Lk
variable {b g i k kb km n sb sg t v wc yc yn zc zn : Nat} {w : World}
theorem SpotAt.mod {w' : World} {s : SpotP} (h : SpotAt w b g wc s) (hM : Mod (· = k) w w') (h1 : b ≠ k) (h2 : g ≠ k) : SpotAt w' b g wc s :=
 ⟨(hM.block _ (lt_of_block h.h) h1).trans h.h, O.z0g h.o hM (fun j hj e => by simp only [Value.ownBlock, Option.some.injEq] at hj; have : j = k := e; omega), h.n, h.m⟩
variable {di pl : Bool} {c pt : ByteArray} {gen gn slot tk : Int} {l : List (Cel Nd)} {L : List (RefK × Wd)} {ya za : Option Addr}
set_option maxRecDepth 20000 in
set_option maxHeartbeats 4000000 in
theorem bare_yes {k : Int} {cd vl : ByteArray} {s : SpotP} {r : Int × Int} (w : World) (h : TreeAt w t sb sg kb km l L tk) (hr : RoomsAt w) (hzn : zn <= 1000)
 (hs : SpotAt w b g wc s) (hw : s.way.length <= wc) (hw2 : 2 <= s.way.length) (hrl : s.way[s.way.length - 1]? = some r) (hL : S.Live l r.1 r.2 i ⟨true, ⟨k, cd, vl, pt, ⟨ya, yn, yc⟩, ⟨za, zn, zc⟩, pl, di⟩, gn⟩) (hb : (!pl && !(((kindOf (zn + 1) : Nat) : Int) == k)) = true) :
 Calls Tryz.prog 59 #[.pointer (some ⟨t, 0, none⟩), .pointer (some ⟨b, 0, none⟩)] w fun e w' => ∃ a, e = .returned (.agg #[z2h s g wc 2, .slice (some ⟨a, 0, none⟩) 1 1, .int .i64 2]) /\ w'.heap[a]? = some (.cells #[.int .i64 r.1, .int .u32 r.2] 36 (0, 0)) /\ w.heap.size <= a /\ Below w.heap.size w w' := by
 have hB : Below w.heap.size w (w.alloc (.cells #[.slice none 0 0, .slice none 0 0, .int .i64 0] 90 (0, 0))) := (Below.refl _ _).alloc (Nat.le_refl _) _
 have hbl0 := lt_of_block hs.h
 have h0 := z0a w (.cells #[.slice none 0 0, .slice none 0 0, .int .i64 0] 90 (0, 0))
 have hm := hs.m
 have hn := hs.n
 have hgl0 := hs.glt
 have HUP := hid (fun w1 (hs1 : SpotAt w1 b g wc s) => up_at (k := 0) hs1 hn (by simpa using hrl))
 have HSP := hid (hs.keep hB)
 have hb0 := hs.keep hB
 have HT := hid (h.keep hB)
 have HRM := hid (hr.keep hB)
 have HL := hid hL
 have HBV := hid hb
 generalize hW : w.alloc (.cells #[.slice none 0 0, .slice none 0 0, .int .i64 0] 90 (0, 0)) = W at *
 generalize hu : w.heap.size = u at *
 have HB := hid hb0.h
 have H0 := hid h0
 have HW := hid hW
 have HU := hid hu
 have HBL := hid hB
 have hbl : b < W.heap.size := lt_of_block HB.out
 have e1 : ((s.way.length : Nat) : Int) - 2 = ((s.way.length - 2 : Nat) : Int) := by omega
 have hix : s.way.length - 2 <= s.way.length := by omega
 have hl : s.way.length - (s.way.length - 2) = 2 := by omega
 unfold z2h
 generalize s.way.length - 2 = ix at *
 clear h hr hs hb0 h0 hW hu hB hL hb hrl
 go_enter Tryz.func59, Tryz.ntmps59
 go_wp2_with fail
 rw [HW.out, HU.out]
 go_wp2_with (first | (go_at_call 31; refine (HUP.out _ HSP.out).mono ?_; rintro e w2 ⟨rfl, hb2⟩; go_loud (have HGR := hid (grows_at r.1 r.2 w2 (HT.out.keep hb2) (HRM.out.keep hb2) hzn HL.out true HBV.out.symm); have HB2 := hid hb2; clear hb2)) | (go_at_call 92; refine HGR.out.mono ?_; rintro e w3 ⟨rfl, hb3⟩; go_loud (have hb23 := HB2.out.trans (hb3.mono HB2.out.size); have H03 := hid ((hb23.block _ (lt_of_block H0.out)).trans H0.out); have HB3 := hid ((hb23.block _ (lt_of_block HB.out)).trans HB.out); have HSP3 := hid (HSP.out.keep hb23); have HBL3 := hid (HBL.out.trans (hb23.mono (by have := HBL.out.size; have := HU.out; omega))); clear hb23 hb3)))
 have hu3 := lt_of_block H03.out
 have hGK : GKeeps (fun w1 v => ∃ a, w3.heap.size <= a /\ v = .slice (some ⟨a, 0, none⟩) 1 1 /\ w1.heap[a]? = some (.cells #[.int .i64 r.1, .int .u32 r.2] 36 (0, 0))) u := by
  rintro wa wb v ⟨a, h1, h2, h3⟩ hM
  exact ⟨a, h1, h2, (hM.block a (lt_of_block h3) (by show ¬ a = u; omega)).trans h3⟩
 have HGK := hid hGK
 clear hGK
 refine z0r 16 [13] (fun xs => [.pointer (some ⟨b, 0, none⟩), .pointer (some ⟨b, 0, none⟩), .pointer (some ⟨b, 1, none⟩), (.slice (some ⟨g, 0, none⟩) s.way.length wc), .pointer (some ⟨b, 0, none⟩), .pointer (some ⟨b, 0, none⟩), .pointer (some ⟨b, 1, none⟩), (.slice (some ⟨g, 0, none⟩) s.way.length wc), .int .i64 s.way.length, .int .i64 ix, (.slice (some ⟨g, ix * 2, none⟩) 2 (wc - ix)), .pointer (some ⟨b, 0, none⟩), .agg #[.int .i64 r.1, .int .u32 r.2], xs 13, .agg #[(.slice (some ⟨g, ix * 2, none⟩) 2 (wc - ix)), xs 13, .int .i64 2], undef]) (GJ 90 (fun w1 v => ∃ a, w3.heap.size <= a /\ v = .slice (some ⟨a, 0, none⟩) 1 1 /\ w1.heap[a]? = some (.cells #[.int .i64 r.1, .int .u32 r.2] 36 (0, 0))) w3 u 13 15 [] [] [(14, 13)] (fun _ => undef) (fun _ v => v) #[.slice none 0 0, .slice none 0 0, .int .i64 0] (fun v => #[(.slice (some ⟨g, ix * 2, none⟩) 2 (wc - ix)), v, .int .i64 2])) ?h0 (fun xs ys h => by simp [h]) ?hs ?hend
 case h0 => exact GJ.start H03.out
 case hs =>
  dsimp only [List.take, z1a, OpT, z1n]
  (repeat' refine And.intro ?_ ?_) <;> first | refine .inl ⟨rfl, ?_⟩ | refine .inr ⟨rfl, ?_⟩
  iterate 12
   ·intro D xs w1 hDk hwt hJ
    have q1 := cell_of ((hJ.m.block b (lt_of_block HB3.out) (by show ¬ _ = _; omega)).trans HB3.out) 1
    have HJ := hid hJ
    clear hDk hwt hJ
    go_wp2_with fail
    refine ⟨by kernel_rfl, ?_⟩; (try intro _ _); exact GJ.calm HGK.out HJ.out (Below.refl _ _)
  ·intro D xs w1 hDk hwt hJ
   have HUW := hid (HUP.out w1 (HSP3.out.mod hJ.m (by omega) (by omega)))
   have HJ := hid hJ
   clear hDk hwt hJ
   go_wp2_with (go_at_call 31; refine HUW.out.mono ?_; rintro e w4 ⟨rfl, hb4⟩)
   refine ⟨by kernel_rfl, ?_⟩; (try intro _ _); exact GJ.calm HGK.out HJ.out (hb4)
  ·intro D xs w1 hDk hwt hJ
   have hD : D 13 = false := hDk
   have hsz := hJ.m.size
   have HJ := hid hJ
   clear hDk hwt hJ
   go_wp2_with fail
   have hnb := z0a w1 (.cells #[.int .i64 r.1, .int .u32 r.2] 36 (0, 0))
   have hbl1 : Below w1.heap.size w1 (w1.alloc (.cells #[.int .i64 r.1, .int .u32 r.2] 36 (0, 0))) := (Below.refl _ _).alloc (Nat.le_refl _) _
   exact ⟨_, by kernel_rfl, fun q hq => by obtain rfl := hq rfl; exact GJ.call HJ.out hD ⟨w1.heap.size, hsz, rfl, hnb⟩ hbl1⟩
  ·intro D xs w1 hDk hwt hJ
   have h13 : D 13 = true := hwt 13 (eM (by kernel_rfl))
   obtain ⟨a, _, ea, _⟩ := hJ.l h13
   have HJ := hid hJ
   rw [ea]
   clear hDk hwt hJ ea
   go_wp2_with fail
   exact ⟨by kernel_rfl, fun _ _ => GJ.calm HGK.out HJ.out (Below.refl _ _) (fun j h => by simp at h; subst h; exact h13)⟩
  ·intro D xs w1 hDk hwt hJ
   have hD : D 15 = false := hDk
   have h13 := hJ.p 14 13 (by decide) (hwt 14 (eM (by kernel_rfl)))
   obtain ⟨a, _, ea, _⟩ := hJ.l h13
   have hc := hJ.c
   rw [hD] at hc
   simp only [cond_false] at hc
   rw [ea]
   have q0 := cell_of hc 0
   have q1 := cell_of hc 1
   have q2 := cell_of hc 2
   have qf := z0e hc
   have HC := hid hc
   have HJ := hid hJ
   have HEA := hid ea
   clear hDk hwt hJ ea hc
   go_wp2_with fail
   obtain ⟨m1, m2⟩ := set3_at ((.slice (some ⟨g, ix * 2, none⟩) 2 (wc - ix))) (.slice (some ⟨a, 0, none⟩) 1 1) (.int .i64 2) HC.out
   exact ⟨by kernel_rfl, fun q _ => GJ.store HGK.out HJ.out h13 m2 (by rw [HEA.out]; exact m1)⟩
 case hend =>
  intro D xs w1 hD hJ
  obtain ⟨a, la, ea, ha⟩ := hJ.l (hD 13 (by omega))
  have hc := hJ.c
  rw [hD 15 (by omega), ea] at hc
  simp only [cond_true] at hc
  have hM := hJ.m
  have q0 := cell_of hc 0
  have q1 := cell_of hc 1
  have q2 := cell_of hc 2
  have HF := hid (And.intro la (And.intro ha hM))
  clear hD hJ ea hc la ha hM
  dsimp only [List.take, z1n, List.drop]
  go_wp2_with fail
  obtain ⟨la, ha, hM⟩ := HF.out
  refine bodyPost_ret (v := .agg #[(.slice (some ⟨g, ix * 2, none⟩) 2 (wc - ix)), .slice (some ⟨a, 0, none⟩) 1 1, .int .i64 2]) ?hr (by kernel_rfl) ⟨a, rfl, ha, by omega, z0u HBL3.out hM (Nat.le_refl _) (by omega)⟩
  case hr => simp [results, Tryz.results59, go_sem, q0, q1, q2]
def NoB (a : Option Addr) (v : Nat) : Prop := ∀ n c k, (Value.slice a n c).ownBlock = some k -> k ≠ v
def TurnF (k : Nat) (pt : ByteArray) (n v : Nat) (L : List Kd) (w1 : World) (x : Value) : Prop :=
 ∃ ya yc za zc, x = .tuple #[.agg #[.int .i64 k, .string ⟨#[]⟩, .string ⟨#[]⟩, .string pt, .slice ya n yc, .slice za n zc], .int .i64 0] /\ O.NodeIn w1 k pt ya n yc za n zc L /\ NoB ya v /\ NoB za v
theorem z0y {L : List Kd} : GKeeps (TurnF k pt n v L) v := by
 rintro wa wb x ⟨ya, yc, za, zc, e, h, h1, h2⟩ hM
 exact ⟨ya, yc, za, zc, e, ⟨O.z0g h.b hM (fun j hj e => h1 _ _ j hj e), O.z0g h.z hM (fun j hj e => h2 _ _ j hj e), h.k1, h.k2, h.p, h.len, h.rise, h.ok⟩, h1, h2⟩
theorem turnF_of {L : List Kd} {w1 : World} {cs : Array Value} (h : O.NodeIn w1 k pt ya n yc za n zc L) (hv : w1.heap[v]? = some (.cells cs 102 (0, 0))) : TurnF k pt n v L w1 (.tuple #[.agg #[.int .i64 k, .string ⟨#[]⟩, .string ⟨#[]⟩, .string pt, .slice ya n yc, .slice za n zc], .int .i64 0]) := by
 refine ⟨ya, yc, za, zc, rfl, h, fun a b j hj => ?_, fun a b j hj => ?_⟩
 ·exact O.z1h h.b hv (by decide) j (by
   cases ya with
   | none => simp [Value.ownBlock] at hj
   | some q => simpa [Value.ownBlock] using hj)
 ·exact O.z1h h.z hv (by decide) j (by
   cases za with
   | none => simp [Value.ownBlock] at hj
   | some q => simpa [Value.ownBlock] using hj)
def tupAt (x : Value) (i : Nat) : Value := match x with
 | .tuple vs => vs.getD i undef
 | _ => undef
def tdT (j : Nat) (x : Value) : Value := match j with
 | 9 => tupAt x 0
 | 10 => tupAt x 1
 | _ => x
set_option maxRecDepth 20000 in
set_option maxHeartbeats 4000000 in
theorem kid_at {jj : Nat} {Lk : List Kd} {kk : Kd} (us ug fs fg ts tg : Int) (w : World) (h : TreeAt w t sb sg kb km l L tk) (hr : RoomsAt w)
 (hL : S.Live l us ug i ⟨true, ⟨k, ⟨#[]⟩, ⟨#[]⟩, pt, ⟨ya, yn, yc⟩, ⟨za, zn, zc⟩, pl, di⟩, gn⟩) (hN : O.NodeIn w k pt ya yn yc za zn zc Lk) (hM : O.MayB k Lk.length pt)
 (hj : Lk[jj]? = some kk) (hf : z0o Lk kk.b = some kk) (hs : kk.s = fs) (hg : kk.g = fg) (hn : ∀ i k, i < jj -> Lk[i]? = some k -> ¬ (k.s = fs /\ k.g = fg)) (hok : (⟨kk.b, ts, tg⟩ : Kd).ok) :
 Calls Tryz.prog 38 #[.pointer (some ⟨t, 0, none⟩), .agg #[.int .i64 us, .int .u32 ug], .agg #[.int .i64 fs, .int .u32 fg], .agg #[.int .i64 ts, .int .u32 tg]] w fun e w' => ∃ ya' yc' za' zc', e = .returned (.tuple #[]) /\
  TreeAt w' t sb sg kb km (l.set i ⟨true, ⟨k, ⟨#[]⟩, ⟨#[]⟩, pt, ⟨ya', Lk.length, yc'⟩, ⟨za', Lk.length, zc'⟩, pl, di⟩, gn⟩) L tk /\ O.NodeIn w' k pt ya' Lk.length yc' za' Lk.length zc' (z1o Lk kk.b ts tg) /\ Mod (· = sg) w w' := by
 have hs1 : (w.alloc (.cells #[.int .i64 us, .int .u32 ug] 36 (0, 0))).heap.size = w.heap.size + 1 := by simp
 have hs2 : ((w.alloc (.cells #[.int .i64 us, .int .u32 ug] 36 (0, 0))).alloc (.cells #[.int .i64 fs, .int .u32 fg] 36 (0, 0))).heap.size = w.heap.size + 1 + 1 := by simp
 have b0 := z0d (o' := (.cells #[.int .i64 ts, .int .u32 tg] 36 (0, 0))) (z0d (o' := (.cells #[.int .i64 fs, .int .u32 fg] 36 (0, 0))) (z0a w (.cells #[.int .i64 us, .int .u32 ug] 36 (0, 0))))
 have b1 := z0d (o' := (.cells #[.int .i64 ts, .int .u32 tg] 36 (0, 0))) (z0a (w.alloc (.cells #[.int .i64 us, .int .u32 ug] 36 (0, 0))) (.cells #[.int .i64 fs, .int .u32 fg] 36 (0, 0)))
 have b2 := z0a ((w.alloc (.cells #[.int .i64 us, .int .u32 ug] 36 (0, 0))).alloc (.cells #[.int .i64 fs, .int .u32 fg] 36 (0, 0))) (.cells #[.int .i64 ts, .int .u32 tg] 36 (0, 0))
 rw [hs1] at b1
 rw [hs2] at b2
 have hB : Below w.heap.size w (((w.alloc (.cells #[.int .i64 us, .int .u32 ug] 36 (0, 0))).alloc (.cells #[.int .i64 fs, .int .u32 fg] 36 (0, 0))).alloc (.cells #[.int .i64 ts, .int .u32 tg] 36 (0, 0))) := (((Below.refl _ _).alloc (Nat.le_refl _) _).alloc (by simp) _).alloc (by simp; omega) _
 have hlt : t < w.heap.size /\ sb < w.heap.size /\ sg < w.heap.size /\ kb < w.heap.size /\ km < w.heap.size := ⟨lt_of_block h.ht, h.hs.blt, h.hs.glt, h.hk.lt.1, h.hk.lt.2⟩
 obtain rfl : zn = Lk.length := O.z1p hN.z
 obtain rfl : yn = Lk.length := O.z1p hN.b
 have hjl : jj < Lk.length := (List.getElem?_eq_some_iff.1 hj).1
 obtain ⟨gy, rfl, ly, cy⟩ := O.z0x hN.b (by omega)
 have hcy := cy jj _ (bytesL_get hj)
 have HH := hid h
 have HRM := hid hr
 have HL := hid hL
 have HN := hid hN
 have HM := hid hM
 have HJ0 := hid hj
 have HF := hid hf
 have HSG := hid (And.intro hs hg)
 have HNO := hid hn
 have HOK := hid hok
 have HLT := hid hlt
 have HCY := hid hcy
 have HND := hid (node_at us ug (((w.alloc (.cells #[.int .i64 us, .int .u32 ug] 36 (0, 0))).alloc (.cells #[.int .i64 fs, .int .u32 fg] 36 (0, 0))).alloc (.cells #[.int .i64 ts, .int .u32 tg] 36 (0, 0))) (h.keep hB) hL)
 clear h hr hL hN hM hj hf hs hg hn hok hlt cy hcy hs1 hs2
 go_enter Tryz.func38, Tryz.ntmps38
 go_wp2_with (first | (go_at_call 32; refine HND.out.mono ?_; rintro e w2 ⟨rfl, hb2⟩; go_loud (have hz2 : w.heap.size + 1 + 1 + 1 <= w2.heap.size := (by have := hb2.size; simpa using this); have hv := fun o => z0a w2 o; have hb24 := fun o => (Below.refl w2.heap.size w2).alloc (Nat.le_refl _) o; have n4 := cell_of (hv (.cells #[.int .i64 k, .string ⟨#[]⟩, .string ⟨#[]⟩, .string pt, .slice (some ⟨gy, 0, none⟩) Lk.length yc, .slice za Lk.length zc] 102 (0, 0))) 4; have n5 := cell_of (hv (.cells #[.int .i64 k, .string ⟨#[]⟩, .string ⟨#[]⟩, .string pt, .slice (some ⟨gy, 0, none⟩) Lk.length yc, .slice za Lk.length zc] 102 (0, 0))) 5; have hbw2 := hB.trans (hb2.mono hB.size); have h0 := (hb24 (.cells #[.int .i64 k, .string ⟨#[]⟩, .string ⟨#[]⟩, .string pt, .slice (some ⟨gy, 0, none⟩) Lk.length yc, .slice za Lk.length zc] 102 (0, 0))).block _ (by have := hb2.block _ (lt_of_block b0); exact lt_of_block (this.trans b0)); have HB4 := hid (hbw2.trans ((hb24 (.cells #[.int .i64 k, .string ⟨#[]⟩, .string ⟨#[]⟩, .string pt, .slice (some ⟨gy, 0, none⟩) Lk.length yc, .slice za Lk.length zc] 102 (0, 0))).mono hbw2.size)); have HV4 := hid (hv (.cells #[.int .i64 k, .string ⟨#[]⟩, .string ⟨#[]⟩, .string pt, .slice (some ⟨gy, 0, none⟩) Lk.length yc, .slice za Lk.length zc] 102 (0, 0))); have hbW := fun o => hb2.trans ((hb24 o).mono hb2.size); have H0 := hid (((hbW (.cells #[.int .i64 k, .string ⟨#[]⟩, .string ⟨#[]⟩, .string pt, .slice (some ⟨gy, 0, none⟩) Lk.length yc, .slice za Lk.length zc] 102 (0, 0))).block _ (lt_of_block b0)).trans b0); have H1 := hid (((hbW (.cells #[.int .i64 k, .string ⟨#[]⟩, .string ⟨#[]⟩, .string pt, .slice (some ⟨gy, 0, none⟩) Lk.length yc, .slice za Lk.length zc] 102 (0, 0))).block _ (lt_of_block b1)).trans b1); have H2 := hid (((hbW (.cells #[.int .i64 k, .string ⟨#[]⟩, .string ⟨#[]⟩, .string pt, .slice (some ⟨gy, 0, none⟩) Lk.length yc, .slice za Lk.length zc] 102 (0, 0))).block _ (lt_of_block b2)).trans b2); have f0 := cell_of H1.out 0; have f1 := cell_of H1.out 1; have HIX := hid (rIndex_at fs fg (w2.alloc (.cells #[.int .i64 k, .string ⟨#[]⟩, .string ⟨#[]⟩, .string pt, .slice (some ⟨gy, 0, none⟩) Lk.length yc, .slice za Lk.length zc] 102 (0, 0))) (HN.out.keep HB4.out).z HJ0.out HSG.out.1 HSG.out.2 HNO.out HN.out.room); clear hv hb24 hbw2 h0 hbW hb2)) | (go_at_call 79; refine HIX.out.mono ?_; rintro e w5 ⟨rfl, hb5⟩; go_loud (have HB5 := hid (HB4.out.trans (hb5.mono HB4.out.size)); have HV5 := hid ((hb5.block _ (lt_of_block HV4.out)).trans HV4.out); have H05 := hid ((hb5.block _ (lt_of_block H0.out)).trans H0.out); have H25 := hid ((hb5.block _ (lt_of_block H2.out)).trans H2.out); clear hb5)))
 have hvw : w.heap.size <= w2.heap.size := by omega
 generalize w2.heap.size = vb at *
 have hzv := lt_of_block HV5.out
 have hb5s := HB5.out.size
 have hlt := HLT.out
 have hwm : ∀ w1, Mod (· = vb) w5 w1 -> Below w.heap.size w w1 := fun w1 hM => z0u HB5.out hM hvw hb5s
 have hgy : ∀ w1, Mod (· = vb) w5 w1 -> w1.cell? ⟨gy, jj, none⟩ = some (.int .u8 kk.b) := fun w1 hM => (World.cell?_of_block (w := w) ((hwm w1 hM).block gy ly)).trans HCY.out
 have HWM := hid hwm
 have HGY := hid hgy
 clear hwm hgy f0 f1 n4 n5 HIX HND
 refine z0r 12 [7, 8, 9, 10] (fun xs => [(.agg #[.int .i64 k, .string ⟨#[]⟩, .string ⟨#[]⟩, .string pt, .slice (some ⟨gy, 0, none⟩) Lk.length yc, .slice za Lk.length zc]), .pointer (some ⟨vb, 4, none⟩), .slice (some ⟨gy, 0, none⟩) Lk.length yc, .int .i64 jj, .pointer (some ⟨gy, jj, none⟩), .int .u8 kk.b, .agg #[.int .i64 ts, .int .u32 tg], xs 7, xs 8, xs 9, xs 10, undef]) (GJ 102 (TurnF k pt Lk.length vb (z1o Lk kk.b ts tg)) w5 vb 7 11 [] [8, 9, 10] [(7, 0), (4, 2), (5, 2), (7, 2)] (fun _ => undef) tdT #[.int .i64 k, .string ⟨#[]⟩, .string ⟨#[]⟩, .string pt, .slice (some ⟨gy, 0, none⟩) Lk.length yc, .slice za Lk.length zc] (fun x => match tupAt x 0 with | .agg cs => cs | _ => #[])) ?h0 (fun xs ys h => by simp [h]) ?hs ?hend
 case h0 => exact GJ.start HV5.out
 case hs =>
  dsimp only [List.take, z1a, OpT, z1n]
  (repeat' refine And.intro ?_ ?_) <;> first | refine .inl ⟨rfl, ?_⟩ | refine .inr ⟨rfl, ?_⟩
  ·intro D xs w1 hDk hwt hJ
   have h11 : D 11 = false := by
    cases e : D 11
    ·rfl
    ·have := hJ.p 7 0 (by decide) (hJ.s e)
     rw [this] at hDk
     cases hDk
   have hc := hJ.c
   rw [h11] at hc
   simp only [cond_false] at hc
   have q0 := cell_of hc 0; have q1 := cell_of hc 1; have q2 := cell_of hc 2; have q3 := cell_of hc 3; have q4 := cell_of hc 4; have q5 := cell_of hc 5; clear hc
   have HJ := hid hJ
   clear hDk hwt hJ
   go_wp2_with fail
   refine ⟨by kernel_rfl, ?_⟩; (try intro _ _); exact GJ.calm z0y HJ.out (Below.refl _ _) (fun j h => absurd h (by simp))
  ·intro D xs w1 hDk hwt hJ
   skip
   have HJ := hid hJ
   clear hDk hwt hJ
   go_wp2_with fail
   refine ⟨by kernel_rfl, ?_⟩; (try intro _ _); exact GJ.calm z0y HJ.out (Below.refl _ _) (fun j h => absurd h (by simp))
  ·intro D xs w1 hDk hwt hJ
   have h11 : D 11 = false := by
    cases e : D 11
    ·rfl
    ·have := hJ.p 7 2 (by decide) (hJ.s e)
     rw [this] at hDk
     cases hDk
   have hc := hJ.c
   rw [h11] at hc
   simp only [cond_false] at hc
   have q0 := cell_of hc 0; have q1 := cell_of hc 1; have q2 := cell_of hc 2; have q3 := cell_of hc 3; have q4 := cell_of hc 4; have q5 := cell_of hc 5; clear hc
   have HJ := hid hJ
   clear hDk hwt hJ
   go_wp2_with fail
   refine ⟨by kernel_rfl, ?_⟩; (try intro _ _); exact GJ.calm z0y HJ.out (Below.refl _ _) (fun j h => absurd h (by simp))
  ·intro D xs w1 hDk hwt hJ
   skip
   have HJ := hid hJ
   clear hDk hwt hJ
   go_wp2_with fail
   refine ⟨by kernel_rfl, ?_⟩; (try intro _ _); exact GJ.calm z0y HJ.out (Below.refl _ _) (fun j h => absurd h (by simp))
  ·intro D xs w1 hDk hwt hJ
   skip
   have HJ := hid hJ
   have HWT := hid hwt
   clear hDk hwt hJ
   go_wp2_with fail
   refine ⟨by kernel_rfl, ?_⟩; (try intro _ _); exact GJ.calm z0y HJ.out (Below.refl _ _) (fun j' h => by simp at h; subst h; exact HWT.out 2 (eM (by kernel_rfl)))
  ·intro D xs w1 hDk hwt hJ
   have g0 := HGY.out w1 hJ.m
   have HJ := hid hJ
   have HWT := hid hwt
   clear hDk hwt hJ
   go_wp2_with fail
   refine ⟨by kernel_rfl, ?_⟩; (try intro _ _); exact GJ.calm z0y HJ.out (Below.refl _ _) (fun j' h => by simp at h; subst h; exact HJ.out.p 4 2 (by decide) (HWT.out 4 (eM (by kernel_rfl))))
  ·intro D xs w1 hDk hwt hJ
   have h2 := (hJ.m.block _ (lt_of_block H25.out) (by show ¬ _ = _; omega)).trans H25.out; have t0 := cell_of h2 0; have t1 := cell_of h2 1
   have HJ := hid hJ
   clear hDk hwt hJ
   go_wp2_with fail
   refine ⟨by kernel_rfl, ?_⟩; (try intro _ _); exact GJ.calm z0y HJ.out (Below.refl _ _) (fun j h => absurd h (by simp))
  ·intro D xs w1 hDk hwt hJ
   have hD : D 7 = false := hDk
   have hwb := HWM.out w1 hJ.m
   have HTN := hid (O.Turn_at kk.b ts tg kk HOK.out HF.out (HN.out.keep hwb) (HRM.out.keep hwb) HM.out)
   have h11 : D 11 = false := by
    cases e : D 11
    ·rfl
    ·rw [hJ.s e] at hD; cases hD
   have hc := hJ.c
   rw [h11] at hc
   simp only [cond_false] at hc
   have HC := hid hc
   have HJ := hid hJ
   have HWT := hid hwt
   clear hDk hwt hJ hwb hc
   go_wp2_with (go_at_call 80; refine HTN.out.mono ?_; rintro e w6 ⟨ya', yc', za', zc', rfl, hN6, hb6⟩)
   have hF6 := turnF_of hN6 ((hb6.block _ (lt_of_block HC.out)).trans HC.out)
   exact ⟨_, by kernel_rfl, fun q hq => by obtain rfl := hq rfl; exact GJ.call HJ.out hD hF6 hb6 (fun j' h => by simp at h; rcases h with rfl | rfl; exact HWT.out 0 (eM (by kernel_rfl)); exact HJ.out.p 5 2 (by decide) (HWT.out 5 (eM (by kernel_rfl))))⟩
  ·intro D xs w1 hDk hwt hJ
   have h7 : D 7 = true := hwt 7 (eM (by kernel_rfl))
   obtain ⟨ya', yc', za', zc', ea, _⟩ := hJ.l h7
   have HEA := hid ea
   rw [ea]
   have HJ := hid hJ
   try clear e9
   clear hDk hwt hJ
   try clear ea
   go_wp2_with fail
   first | exact ⟨_, by kernel_rfl, fun q hq => by obtain rfl := hq rfl; exact GJ.dep HJ.out h7 (by rw [HEA.out])⟩ | exact ⟨_, by kernel_rfl, GJ.dep HJ.out h7 (by rw [HEA.out])⟩
  iterate 2
   ·intro D xs w1 hDk hwt hJ
    obtain ⟨h7, e8⟩ := hJ.e 8 (hwt 8 (eM (by kernel_rfl))) (by decide)
    obtain ⟨ya', yc', za', zc', ea, _⟩ := hJ.l h7
    have e9 : xs 8 = .tuple #[.agg #[.int .i64 k, .string ⟨#[]⟩, .string ⟨#[]⟩, .string pt, .slice ya' Lk.length yc', .slice za' Lk.length zc'], .int .i64 0] := by rw [e8, ea]; rfl
    clear e8
    have HEA := hid ea
    rw [e9]
    have HJ := hid hJ
    try clear e9
    clear hDk hwt hJ
    try clear ea
    go_wp2_with fail
    first | exact ⟨_, by kernel_rfl, fun q hq => by obtain rfl := hq rfl; exact GJ.dep HJ.out h7 (by rw [HEA.out])⟩ | exact ⟨_, by kernel_rfl, GJ.dep HJ.out h7 (by rw [HEA.out])⟩
  ·intro D xs w1 hDk hwt hJ
   have hD : D 11 = false := hDk
   obtain ⟨h7, e8⟩ := hJ.e 9 (hwt 9 (eM (by kernel_rfl))) (by decide)
   obtain ⟨ya', yc', za', zc', ea, _⟩ := hJ.l h7
   have e9 : xs 9 = .agg #[.int .i64 k, .string ⟨#[]⟩, .string ⟨#[]⟩, .string pt, .slice ya' Lk.length yc', .slice za' Lk.length zc'] := by rw [e8, ea]; rfl
   have hc := hJ.c
   rw [hD] at hc
   simp only [cond_false] at hc
   have HC := hid hc
   have q0 := cell_of hc 0; have q1 := cell_of hc 1; have q2 := cell_of hc 2; have q3 := cell_of hc 3; have q4 := cell_of hc 4; have q5 := cell_of hc 5; clear hc
   have qf := z0e HC.out
   have HJ := hid hJ
   have HEA := hid ea
   rw [e9]
   clear hDk hwt hJ ea e8 e9
   go_wp2_with fail
   obtain ⟨m1, m2⟩ := O.set6_at (.int .i64 k) (.string ⟨#[]⟩) (.string ⟨#[]⟩) (.string pt) (.slice ya' Lk.length yc') (.slice za' Lk.length zc') HC.out
   exact ⟨by kernel_rfl, fun q _ => GJ.store z0y HJ.out h7 m2 (by rw [HEA.out]; exact m1)⟩
 case hend =>
  intro D xs w1 hD hJ
  obtain ⟨ya', yc', za', zc', ea, hN6, _⟩ := hJ.l (hD 7 (by omega))
  have hc := hJ.c
  rw [hD 11 (by omega), ea] at hc
  simp only [cond_true, tupAt] at hc
  have hM1 := hJ.m
  have hT1 := HH.out.keep (HWM.out w1 hM1)
  have HPS := hid (pset_at us ug k ⟨#[]⟩ ⟨#[]⟩ pt ya' za' Lk.length yc' Lk.length zc' w1 hT1 HL.out)
  have hc2 : w1.heap[vb]? = some (.cells #[.int .i64 k, .string ⟨#[]⟩, .string ⟨#[]⟩, .string pt, .slice ya' Lk.length yc', .slice za' Lk.length zc'] 102 (0, 0)) := hc
  have q0 := cell_of hc2 0
  have q1 := cell_of hc2 1
  have q2 := cell_of hc2 2
  have q3 := cell_of hc2 3
  have q4 := cell_of hc2 4
  have q5 := cell_of hc2 5
  have h05 := (hM1.block _ (lt_of_block H05.out) (by show ¬ _ = _; omega)).trans H05.out
  have u0 := cell_of h05 0
  have u1 := cell_of h05 1
  have HE := hid (And.intro hN6 (And.intro hT1 (HWM.out w1 hM1)))
  clear hD hJ ea hc hc2 hM1 hT1 hN6 h05
  dsimp only [List.take, z1n, List.drop]
  go_wp2_with (go_at_call 33; refine HPS.out.mono ?_; rintro e w7 ⟨rfl, hT7, hM7⟩)
  go_end0
  obtain ⟨hN6, hT1, hbw⟩ := HE.out
  have hno : ∀ kb', kb' = sg -> NoRow w1 kb' := fun kb' e => hT1.noRow kb' (.inl e)
  exact ⟨ya', yc', za', zc', rfl, hT7, ⟨O.z0g hN6.b hM7 (fun kb' hk hs => own_not hN6.b (.inl rfl) hk (hno kb' hs)), O.z0g hN6.z hM7 (fun kb' hk hs => own_not hN6.z (.inr rfl) hk (hno kb' hs)), hN6.k1, hN6.k2, hN6.p, hN6.len, hN6.rise, hN6.ok⟩, (Mod.z0n (S := (· = sg)) hbw).trans hM7 (fun _ _ h => h)⟩
def z1k (x y : Kd) : List Kd := if x.b < y.b then [x, y] else [y, x]
theorem fork_end (p : ByteArray) (a b : Kd) (w : World) (hp : p.size <= 34) (ha : a.ok) (hb : b.ok) (hlt : a.b < b.b) :
 (((((w.alloc (.cells #[.int .i64 a.s, .int .u32 a.g] 36 (0, 0))).alloc (.cells #[.int .i64 b.s, .int .u32 b.g] 36 (0, 0))).alloc (.cells #[.int .i64 2, .string ⟨#[]⟩, .string ⟨#[]⟩, .string p, .slice (some ⟨w.heap.size + 1 + 1 + 1, 0, none⟩) 2 2, .slice (some ⟨w.heap.size + 1 + 1 + 1 + 1, 0, none⟩) 2 2] 102 (0, 0))).alloc (.cells #[.int .u8 a.b, .int .u8 b.b] 5 (0, 0))).alloc (.cells #[.int .i64 a.s, .int .u32 a.g, .int .i64 b.s, .int .u32 b.g] 36 (0, 0))).heap[w.heap.size + 1 + 1]? = some (.cells #[.int .i64 2, .string ⟨#[]⟩, .string ⟨#[]⟩, .string p, .slice (some ⟨w.heap.size + 1 + 1 + 1, 0, none⟩) 2 2, .slice (some ⟨w.heap.size + 1 + 1 + 1 + 1, 0, none⟩) 2 2] 102 (0, 0)) /\
  O.NodeIn (((((w.alloc (.cells #[.int .i64 a.s, .int .u32 a.g] 36 (0, 0))).alloc (.cells #[.int .i64 b.s, .int .u32 b.g] 36 (0, 0))).alloc (.cells #[.int .i64 2, .string ⟨#[]⟩, .string ⟨#[]⟩, .string p, .slice (some ⟨w.heap.size + 1 + 1 + 1, 0, none⟩) 2 2, .slice (some ⟨w.heap.size + 1 + 1 + 1 + 1, 0, none⟩) 2 2] 102 (0, 0))).alloc (.cells #[.int .u8 a.b, .int .u8 b.b] 5 (0, 0))).alloc (.cells #[.int .i64 a.s, .int .u32 a.g, .int .i64 b.s, .int .u32 b.g] 36 (0, 0))) 2 p (some ⟨w.heap.size + 1 + 1 + 1, 0, none⟩) 2 2 (some ⟨w.heap.size + 1 + 1 + 1 + 1, 0, none⟩) 2 2 [a, b] /\ Below w.heap.size w (((((w.alloc (.cells #[.int .i64 a.s, .int .u32 a.g] 36 (0, 0))).alloc (.cells #[.int .i64 b.s, .int .u32 b.g] 36 (0, 0))).alloc (.cells #[.int .i64 2, .string ⟨#[]⟩, .string ⟨#[]⟩, .string p, .slice (some ⟨w.heap.size + 1 + 1 + 1, 0, none⟩) 2 2, .slice (some ⟨w.heap.size + 1 + 1 + 1 + 1, 0, none⟩) 2 2] 102 (0, 0))).alloc (.cells #[.int .u8 a.b, .int .u8 b.b] 5 (0, 0))).alloc (.cells #[.int .i64 a.s, .int .u32 a.g, .int .i64 b.s, .int .u32 b.g] 36 (0, 0))) := by
 generalize hn : (Obj.cells #[.int .i64 2, .string ⟨#[]⟩, .string ⟨#[]⟩, .string p, .slice (some ⟨w.heap.size + 1 + 1 + 1, 0, none⟩) 2 2, .slice (some ⟨w.heap.size + 1 + 1 + 1 + 1, 0, none⟩) 2 2] 102 (0, 0)) = no
 have s1 : (w.alloc (.cells #[.int .i64 a.s, .int .u32 a.g] 36 (0, 0))).heap.size = w.heap.size + 1 := by simp
 have s2 : ((w.alloc (.cells #[.int .i64 a.s, .int .u32 a.g] 36 (0, 0))).alloc (.cells #[.int .i64 b.s, .int .u32 b.g] 36 (0, 0))).heap.size = w.heap.size + 1 + 1 := by simp
 have s3 : (((w.alloc (.cells #[.int .i64 a.s, .int .u32 a.g] 36 (0, 0))).alloc (.cells #[.int .i64 b.s, .int .u32 b.g] 36 (0, 0))).alloc no).heap.size = w.heap.size + 1 + 1 + 1 := by simp
 have s4 : ((((w.alloc (.cells #[.int .i64 a.s, .int .u32 a.g] 36 (0, 0))).alloc (.cells #[.int .i64 b.s, .int .u32 b.g] 36 (0, 0))).alloc no).alloc (.cells #[.int .u8 a.b, .int .u8 b.b] 5 (0, 0))).heap.size = w.heap.size + 1 + 1 + 1 + 1 := by simp
 have b2 := z0d (o' := .cells #[.int .i64 a.s, .int .u32 a.g, .int .i64 b.s, .int .u32 b.g] 36 (0, 0)) (z0d (o' := .cells #[.int .u8 a.b, .int .u8 b.b] 5 (0, 0)) (z0a ((w.alloc (.cells #[.int .i64 a.s, .int .u32 a.g] 36 (0, 0))).alloc (.cells #[.int .i64 b.s, .int .u32 b.g] 36 (0, 0))) no))
 have b3 := z0d (o' := .cells #[.int .i64 a.s, .int .u32 a.g, .int .i64 b.s, .int .u32 b.g] 36 (0, 0)) (z0a (((w.alloc (.cells #[.int .i64 a.s, .int .u32 a.g] 36 (0, 0))).alloc (.cells #[.int .i64 b.s, .int .u32 b.g] 36 (0, 0))).alloc no) (.cells #[.int .u8 a.b, .int .u8 b.b] 5 (0, 0)))
 have b4 := z0a ((((w.alloc (.cells #[.int .i64 a.s, .int .u32 a.g] 36 (0, 0))).alloc (.cells #[.int .i64 b.s, .int .u32 b.g] 36 (0, 0))).alloc no).alloc (.cells #[.int .u8 a.b, .int .u8 b.b] 5 (0, 0))) (.cells #[.int .i64 a.s, .int .u32 a.g, .int .i64 b.s, .int .u32 b.g] 36 (0, 0))
 rw [s2] at b2
 rw [s3] at b3
 rw [s4] at b4
 refine ⟨b2, ⟨⟨rfl, .inr ⟨_, 2, _, rfl, Nat.zero_le _, b3, Nat.le_refl _, by simp [maxLen], rfl, rfl⟩⟩, ⟨rfl, .inr ⟨_, 2, _, rfl, Nat.zero_le _, b4, Nat.le_refl _, by simp [maxLen], rfl, rfl⟩⟩, by omega, by omega, hp, by simp [z0t], ?_, ?_⟩, ?_⟩
 ·exact List.pairwise_cons.2 ⟨fun c hc => by simp at hc; subst hc; exact hlt, List.pairwise_singleton _ _⟩
 ·intro c hc
  simp at hc
  rcases hc with rfl | rfl
  ·exact ha
  ·exact hb
 ·exact (((((Below.refl _ _).alloc (Nat.le_refl _) _).alloc (by simp) _).alloc (by simp; omega) _).alloc (by simp; omega) _).alloc (by simp; omega) _
set_option maxHeartbeats 2000000 in
theorem nfork_at (p : ByteArray) (x y : Kd) (w : World) (hp : p.size <= 34) (hx : x.ok) (hy : y.ok) (hne : x.b ≠ y.b) :
 Calls Tryz.prog 72 #[.string p, .int .u8 x.b, .agg #[.int .i64 x.s, .int .u32 x.g], .int .u8 y.b, .agg #[.int .i64 y.s, .int .u32 y.g]] w fun e w' => ∃ gb gk, e = .returned (.agg #[.int .i64 2, .string ⟨#[]⟩, .string ⟨#[]⟩, .string p, .slice (some ⟨gb, 0, none⟩) 2 2, .slice (some ⟨gk, 0, none⟩) 2 2]) /\
  O.NodeIn w' 2 p (some ⟨gb, 0, none⟩) 2 2 (some ⟨gk, 0, none⟩) 2 2 (z1k x y) /\ Below w.heap.size w w' /\ w.heap.size <= gb /\ w.heap.size <= gk := by
 have hs1 : (w.alloc (.cells #[.int .i64 x.s, .int .u32 x.g] 36 (0, 0))).heap.size = w.heap.size + 1 := by simp
 have b0 := z0d (o' := (.cells #[.int .i64 0, .string ⟨#[]⟩, .string ⟨#[]⟩, .string ⟨#[]⟩, .slice none 0 0, .slice none 0 0] 102 (0, 0))) (z0d (o' := (.cells #[.int .i64 y.s, .int .u32 y.g] 36 (0, 0))) (z0a w (.cells #[.int .i64 x.s, .int .u32 x.g] 36 (0, 0))))
 have b1 := z0d (o' := (.cells #[.int .i64 0, .string ⟨#[]⟩, .string ⟨#[]⟩, .string ⟨#[]⟩, .slice none 0 0, .slice none 0 0] 102 (0, 0))) (z0a (w.alloc (.cells #[.int .i64 x.s, .int .u32 x.g] 36 (0, 0))) (.cells #[.int .i64 y.s, .int .u32 y.g] 36 (0, 0)))
 rw [hs1] at b1
 rcases Int.lt_trichotomy x.b y.b with hlt | heq | hgt
 ·have d1 : decide (x.b > y.b) = false := by simp; omega
  go_enter Tryz.func72, Tryz.ntmps72
  go_wp2_with fail
  obtain ⟨m1, m2, m3⟩ := fork_end p x y w hp hx hy hlt
  have ek : z1k x y = [x, y] := if_pos hlt
  rw [ek]
  obtain ⟨fs, hus⟩ : ∃ fs, Tryz.prog.underlying 102 = some (.struct fs) := ⟨_, rfl⟩
  exact bodyPost_ret (results_cell_row rfl _ _ (w.heap.size + 1 + 1) _ _ _ _ rfl m1 hus rfl (by kernel_rfl)) rfl ⟨_, _, rfl, m2, m3, by omega, by omega⟩
 ·exact absurd heq hne
 ·have d1 : decide (x.b > y.b) = true := by simp; omega
  have a0 := cell_of b0 0
  have a1 := cell_of b0 1
  have c0 := cell_of b1 0
  have c1 := cell_of b1 1
  go_enter Tryz.func72, Tryz.ntmps72
  go_wp2_with fail
  go_region
  go_wp2_with fail
  obtain ⟨m1, m2, m3⟩ := fork_end p y x w hp hy hx hgt
  have ek : z1k x y = [y, x] := if_neg (by omega)
  rw [ek]
  obtain ⟨fs, hus⟩ : ∃ fs, Tryz.prog.underlying 102 = some (.struct fs) := ⟨_, rfl⟩
  exact bodyPost_ret (results_cell_row rfl _ _ (w.heap.size + 1 + 1) _ _ _ _ rfl m1 hus rfl (by kernel_rfl)) rfl ⟨_, _, rfl, m2.keep ((Below.refl _ _).drew), m3.drew, by omega, by omega⟩
theorem own_cap {B : Nat} {e : TypeId} {s m c : Nat} {a : Option Addr} {xs : List Value} (h : w.ownsRow B e s (.slice a m c) n xs) : n <= c := by
 obtain ⟨_, ⟨h1, h2⟩ | ⟨g, cap, cur, h1, _, _, h3⟩⟩ := h
 ·omega
 ·simp only [Value.slice.injEq] at h1
  obtain ⟨_, _, rfl⟩ := h1
  exact h3.1
def fnV (f : Nat) : Value := .func (.func f) #[] #[]
theorem plan_map (W : World) (m : Nat) (hm : W.heap.size = m) : ∃ W1 W2 W3 W4, (Instr.mapUpdate 144 (.map (some m)) (.int .i64 1) (.func (.func 58) #[] #[])).run Tryz.prog (W.alloc (.map #[] 0)) = .ok () W1 /\ (Instr.mapUpdate 144 (.map (some m)) (.int .i64 2) (.func (.func 59) #[] #[])).run Tryz.prog W1 = .ok () W2 /\
 (Instr.mapUpdate 144 (.map (some m)) (.int .i64 3) (.func (.func 60) #[] #[])).run Tryz.prog W2 = .ok () W3 /\ (Instr.mapUpdate 144 (.map (some m)) (.int .i64 4) (.func (.func 60) #[] #[])).run Tryz.prog W3 = .ok () W4 /\
 (Instr.lookup 144 (.map (some m)) (.int .i64 1) false).run Tryz.prog W4 = .ok (.func (.func 58) #[] #[]) W4 /\ (Instr.lookup 144 (.map (some m)) (.int .i64 2) false).run Tryz.prog W4 = .ok (.func (.func 59) #[] #[]) W4 /\
 (Instr.lookup 144 (.map (some m)) (.int .i64 3) false).run Tryz.prog W4 = .ok (.func (.func 60) #[] #[]) W4 /\ (Instr.lookup 144 (.map (some m)) (.int .i64 4) false).run Tryz.prog W4 = .ok (.func (.func 60) #[] #[]) W4 /\ Below W.heap.size W W4 := by
 subst hm
 have hM0 : z0q (Value.int .i64) fnV (W.alloc (.map #[] 0)) W.heap.size [] := ⟨#[], 0, z0a _ _, by simp, by simp, by simp⟩
 obtain ⟨W1, r1, M1, X1⟩ := hM0.store (P := Tryz.prog) (KeyOk.int Tryz.underlying105) Tryz.underlying144 1 58
 obtain ⟨W2, r2, M2, X2⟩ := M1.store (P := Tryz.prog) (KeyOk.int Tryz.underlying105) Tryz.underlying144 2 59
 obtain ⟨W3, r3, M3, X3⟩ := M2.store (P := Tryz.prog) (KeyOk.int Tryz.underlying105) Tryz.underlying144 3 60
 obtain ⟨W4, r4, M4, X4⟩ := M3.store (P := Tryz.prog) (KeyOk.int Tryz.underlying105) Tryz.underlying144 4 60
 have hz : ∀ w, (zeroValue 143).run Tryz.prog w = .ok .nilFunc w := fun _ => by kernel_rfl
 have hX := (((X1.trans X2 (fun _ _ h => h)).trans X3 (fun _ _ h => h)).trans X4 (fun _ _ h => h))
 refine ⟨W1, W2, W3, W4, r1, r2, r3, r4, M4.lookup (P := Tryz.prog) (KeyOk.int Tryz.underlying105) Tryz.underlying144 hz 1 false, M4.lookup (P := Tryz.prog) (KeyOk.int Tryz.underlying105) Tryz.underlying144 hz 2 false, M4.lookup (P := Tryz.prog) (KeyOk.int Tryz.underlying105) Tryz.underlying144 hz 3 false, M4.lookup (P := Tryz.prog) (KeyOk.int Tryz.underlying105) Tryz.underlying144 hz 4 false, ?_⟩
 exact ((Below.refl _ _).alloc (Nat.le_refl _) _).trans ⟨hX.os, hX.tape, hX.output, hX.size, fun k hk => hX.block k (by simp; omega) (by show ¬ _ = _; omega)⟩
variable {P : List (Cel PNd)} {q : PNd}
set_option maxRecDepth 20000 in
set_option maxHeartbeats 4000000 in
theorem Plan_put1 {s : SpotP} (w : World) (h : TreeAt w t sb sg kb km l L tk) (hR : Rel w l P) (hr : RoomsAt w) (hc : z2k c) (hq : z0k P slot gen i q) (hp : q.planted = true) (hs : SeekW P c (slot, gen) 0 [] s) (hw : s.what = 1)
 (kk : Nat) (dies : List (Int × Int)) (room : Nat) (hask : ∀ w1 b g wc, Below w.heap.size w w1 -> SpotAt w1 b g wc s -> s.way.length <= wc -> Calls Tryz.prog 58 #[.pointer (some ⟨t, 0, none⟩), .pointer (some ⟨b, 0, none⟩)] w1 fun e w' => ∃ da dc, e = .returned (.agg #[z2h s g wc kk, .slice da dies.length dc, .int .i64 room]) /\ w'.ownsRow 0 36 2 (.slice da dies.length dc) dies.length (z1v dies) /\ Below w1.heap.size w1 w') :
 Calls Tryz.prog 28 #[.pointer (some ⟨t, 0, none⟩), .agg #[.int .i64 slot, .int .u32 gen], .string c, .bool true] w fun e w' => ∃ g wc da dc, e = .returned (.tuple #[.agg #[z2h s g wc kk, .slice da dies.length dc, .int .i64 room], .int .i64 0]) /\
  w'.ownsRow 0 36 2 (.slice (some ⟨g, 0, none⟩) s.way.length wc) s.way.length (z1v s.way) /\ w'.ownsRow 0 36 2 (.slice da dies.length dc) dies.length (z1v dies) /\ Below w.heap.size w w' := by
 have hs1 : (w.alloc (.cells #[.int .i64 slot, .int .u32 gen] 36 (0, 0))).heap.size = w.heap.size + 1 := by simp
 have b0 := z0d (o' := (.cells #[.slice none 0 0, .slice none 0 0, .int .i64 0] 90 (0, 0))) (z0a w (.cells #[.int .i64 slot, .int .u32 gen] 36 (0, 0)))
 have b1 := z0a (w.alloc (.cells #[.int .i64 slot, .int .u32 gen] 36 (0, 0))) (.cells #[.slice none 0 0, .slice none 0 0, .int .i64 0] 90 (0, 0))
 rw [hs1] at b1
 have hB : Below w.heap.size w ((w.alloc (.cells #[.int .i64 slot, .int .u32 gen] 36 (0, 0))).alloc (.cells #[.slice none 0 0, .slice none 0 0, .int .i64 0] 90 (0, 0))) := ((Below.refl _ _).alloc (Nat.le_refl _) _).alloc (by simp) _
 have HSK := hid (Seek_at ((w.alloc (.cells #[.int .i64 slot, .int .u32 gen] 36 (0, 0))).alloc (.cells #[.slice none 0 0, .slice none 0 0, .int .i64 0] 90 (0, 0))) (h.keep hB) (hR.keep hB) (hr.keep hB) hc hq hp hs)
 have HWH := hid hw
 have HASK := hid hask
 have HS := hid hs
 have HWM : Hid (s.way.length <= 100) := hid (by have h1 := SeekW.way_le hs; have h2 := hc.size; simp only [List.length_nil] at h1; omega)
 clear h hR hr hc hq hp hs hw hask hs1
 go_enter Tryz.func28, Tryz.ntmps28
 have hmm := @run_makeMap Tryz.prog
 go_wp2_with (first | (go_at_call 30; refine HSK.out.mono ?_; rintro e w2 ⟨wa, wc, rfl, how, hb2⟩; go_loud (rw [HWH.out]; obtain ⟨g, rfl, lg, _⟩ := O.z0x (z2f how (Nat.zero_le _)) (SeekW.z1j HS.out); obtain ⟨W1, W2, W3, W4, r1, r2, r3, r4, L1, L2, L3, L4, hbX⟩ := plan_map (w2.alloc (.cells #[.int .i64 1, .slice (some ⟨g, 0, none⟩) s.way.length wc, .int .i64 s.at_, .int .i64 s.depth] 107 (0, 0))) (w2.heap.size + 1) (by simp); have hsp0 := z0a w2 (.cells #[.int .i64 1, .slice (some ⟨g, 0, none⟩) s.way.length wc, .int .i64 s.at_, .int .i64 s.depth] 107 (0, 0)); have hb24 : Below w2.heap.size w2 W4 := ((Below.refl _ _).alloc (Nat.le_refl _) _).trans (hbX.mono (by simp)); have hsp := (hbX.block _ (lt_of_block hsp0)).trans hsp0; have how4 := O.z0g how (O.z0m (S := fun _ => False) hb24) (fun _ _ h => h); have hSA : SpotAt W4 w2.heap.size g wc s := ⟨(by rw [HWH.out]; exact hsp), z2f how4 (Nat.zero_le _), SeekW.z1j HS.out, HWM.out⟩; have q0 := cell_of hsp 0; have hbw2 := hB.trans (hb2.mono hB.size); have hbw4 := hbw2.trans (hb24.mono hbw2.size); have h12 := (hb2.block _ (lt_of_block b1)).trans b1; have HA := hid (HASK.out W4 w2.heap.size g wc hbw4 hSA (own_cap how)); have HOW := hid hSA.o; have H1 := hid ((hb24.block _ (lt_of_block h12)).trans h12); have HB4 := hid hbw4; clear how hb2 lg hbX hsp0 hb24 hsp how4 hSA hbw2 hbw4 h12)) | (go_at_call 58; refine HA.out.mono ?_; rintro e w5 ⟨da, dc, rfl, hod, hb5⟩; go_loud (unfold z2h; have h1 := (hb5.block _ (lt_of_block H1.out)).trans H1.out; have p0 := cell_of h1 0; have p1 := cell_of h1 1; have p2 := cell_of h1 2; have pf := z0e h1; have H15 := hid h1; have HOD := hid hod; have HOW5 := hid (O.z0g HOW.out (O.z0m (S := fun _ => False) hb5) (fun _ _ h => h)); have HB5 := hid (HB4.out.trans (hb5.mono HB4.out.size)); clear h1 hod hb5)))
 obtain ⟨m1, m2⟩ := set3_at (z2h s g wc kk) (.slice da dies.length dc) (.int .i64 room) H15.out
 have e0 := lt_of_block H15.out
 obtain ⟨fs, hus⟩ : ∃ fs, Tryz.prog.underlying 90 = some (.struct fs) := ⟨_, rfl⟩
 have hR := fun tm hp => z1r (P := Tryz.prog) (fn := Tryz.f28) (p := 8) (u := 9) (ty := 90) (by kernel_rfl) tm _ (w.heap.size + 1) _ _ _ _ hp m1 hus rfl (by kernel_rfl)
 unfold z2h at hR m1 m2
 refine bodyPost_ret (hR _ ?hp) ?hd ?post
 case hp => rfl
 case hd => rfl
 case post =>
  refine ⟨g, wc, da, dc, rfl, ?_, ?_, z0u HB5.out m2 (by omega) (by omega)⟩
  ·exact O.z0g HOW5.out m2 (O.z1h HOW5.out H15.out (by decide))
  ·exact O.z0g HOD.out m2 (O.z1h HOD.out H15.out (by decide))
set_option maxRecDepth 20000 in
set_option maxHeartbeats 4000000 in
theorem Plan_put2 {s : SpotP} (w : World) (h : TreeAt w t sb sg kb km l L tk) (hR : Rel w l P) (hr : RoomsAt w) (hc : z2k c) (hq : z0k P slot gen i q) (hp : q.planted = true) (hs : SeekW P c (slot, gen) 0 [] s) (hw : s.what = 2)
 (kk : Nat) (dies : List (Int × Int)) (room : Nat) (hask : ∀ w1 b g wc, Below w.heap.size w w1 -> SpotAt w1 b g wc s -> s.way.length <= wc -> Calls Tryz.prog 59 #[.pointer (some ⟨t, 0, none⟩), .pointer (some ⟨b, 0, none⟩)] w1 fun e w' => ∃ da dc, e = .returned (.agg #[z2h s g wc kk, .slice da dies.length dc, .int .i64 room]) /\ w'.ownsRow 0 36 2 (.slice da dies.length dc) dies.length (z1v dies) /\ Below w1.heap.size w1 w') :
 Calls Tryz.prog 28 #[.pointer (some ⟨t, 0, none⟩), .agg #[.int .i64 slot, .int .u32 gen], .string c, .bool true] w fun e w' => ∃ g wc da dc, e = .returned (.tuple #[.agg #[z2h s g wc kk, .slice da dies.length dc, .int .i64 room], .int .i64 0]) /\
  w'.ownsRow 0 36 2 (.slice (some ⟨g, 0, none⟩) s.way.length wc) s.way.length (z1v s.way) /\ w'.ownsRow 0 36 2 (.slice da dies.length dc) dies.length (z1v dies) /\ Below w.heap.size w w' := by
 have hs1 : (w.alloc (.cells #[.int .i64 slot, .int .u32 gen] 36 (0, 0))).heap.size = w.heap.size + 1 := by simp
 have b0 := z0d (o' := (.cells #[.slice none 0 0, .slice none 0 0, .int .i64 0] 90 (0, 0))) (z0a w (.cells #[.int .i64 slot, .int .u32 gen] 36 (0, 0)))
 have b1 := z0a (w.alloc (.cells #[.int .i64 slot, .int .u32 gen] 36 (0, 0))) (.cells #[.slice none 0 0, .slice none 0 0, .int .i64 0] 90 (0, 0))
 rw [hs1] at b1
 have hB : Below w.heap.size w ((w.alloc (.cells #[.int .i64 slot, .int .u32 gen] 36 (0, 0))).alloc (.cells #[.slice none 0 0, .slice none 0 0, .int .i64 0] 90 (0, 0))) := ((Below.refl _ _).alloc (Nat.le_refl _) _).alloc (by simp) _
 have HSK := hid (Seek_at ((w.alloc (.cells #[.int .i64 slot, .int .u32 gen] 36 (0, 0))).alloc (.cells #[.slice none 0 0, .slice none 0 0, .int .i64 0] 90 (0, 0))) (h.keep hB) (hR.keep hB) (hr.keep hB) hc hq hp hs)
 have HWH := hid hw
 have HASK := hid hask
 have HS := hid hs
 have HWM : Hid (s.way.length <= 100) := hid (by have h1 := SeekW.way_le hs; have h2 := hc.size; simp only [List.length_nil] at h1; omega)
 clear h hR hr hc hq hp hs hw hask hs1
 go_enter Tryz.func28, Tryz.ntmps28
 have hmm := @run_makeMap Tryz.prog
 go_wp2_with (first | (go_at_call 30; refine HSK.out.mono ?_; rintro e w2 ⟨wa, wc, rfl, how, hb2⟩; go_loud (rw [HWH.out]; obtain ⟨g, rfl, lg, _⟩ := O.z0x (z2f how (Nat.zero_le _)) (SeekW.z1j HS.out); obtain ⟨W1, W2, W3, W4, r1, r2, r3, r4, L1, L2, L3, L4, hbX⟩ := plan_map (w2.alloc (.cells #[.int .i64 2, .slice (some ⟨g, 0, none⟩) s.way.length wc, .int .i64 s.at_, .int .i64 s.depth] 107 (0, 0))) (w2.heap.size + 1) (by simp); have hsp0 := z0a w2 (.cells #[.int .i64 2, .slice (some ⟨g, 0, none⟩) s.way.length wc, .int .i64 s.at_, .int .i64 s.depth] 107 (0, 0)); have hb24 : Below w2.heap.size w2 W4 := ((Below.refl _ _).alloc (Nat.le_refl _) _).trans (hbX.mono (by simp)); have hsp := (hbX.block _ (lt_of_block hsp0)).trans hsp0; have how4 := O.z0g how (O.z0m (S := fun _ => False) hb24) (fun _ _ h => h); have hSA : SpotAt W4 w2.heap.size g wc s := ⟨(by rw [HWH.out]; exact hsp), z2f how4 (Nat.zero_le _), SeekW.z1j HS.out, HWM.out⟩; have q0 := cell_of hsp 0; have hbw2 := hB.trans (hb2.mono hB.size); have hbw4 := hbw2.trans (hb24.mono hbw2.size); have h12 := (hb2.block _ (lt_of_block b1)).trans b1; have HA := hid (HASK.out W4 w2.heap.size g wc hbw4 hSA (own_cap how)); have HOW := hid hSA.o; have H1 := hid ((hb24.block _ (lt_of_block h12)).trans h12); have HB4 := hid hbw4; clear how hb2 lg hbX hsp0 hb24 hsp how4 hSA hbw2 hbw4 h12)) | (go_at_call 59; refine HA.out.mono ?_; rintro e w5 ⟨da, dc, rfl, hod, hb5⟩; go_loud (unfold z2h; have h1 := (hb5.block _ (lt_of_block H1.out)).trans H1.out; have p0 := cell_of h1 0; have p1 := cell_of h1 1; have p2 := cell_of h1 2; have pf := z0e h1; have H15 := hid h1; have HOD := hid hod; have HOW5 := hid (O.z0g HOW.out (O.z0m (S := fun _ => False) hb5) (fun _ _ h => h)); have HB5 := hid (HB4.out.trans (hb5.mono HB4.out.size)); clear h1 hod hb5)))
 obtain ⟨m1, m2⟩ := set3_at (z2h s g wc kk) (.slice da dies.length dc) (.int .i64 room) H15.out
 have e0 := lt_of_block H15.out
 obtain ⟨fs, hus⟩ : ∃ fs, Tryz.prog.underlying 90 = some (.struct fs) := ⟨_, rfl⟩
 have hR := fun tm hp => z1r (P := Tryz.prog) (fn := Tryz.f28) (p := 8) (u := 9) (ty := 90) (by kernel_rfl) tm _ (w.heap.size + 1) _ _ _ _ hp m1 hus rfl (by kernel_rfl)
 unfold z2h at hR m1 m2
 refine bodyPost_ret (hR _ ?hp) ?hd ?post
 case hp => rfl
 case hd => rfl
 case post =>
  refine ⟨g, wc, da, dc, rfl, ?_, ?_, z0u HB5.out m2 (by omega) (by omega)⟩
  ·exact O.z0g HOW5.out m2 (O.z1h HOW5.out H15.out (by decide))
  ·exact O.z0g HOD.out m2 (O.z1h HOD.out H15.out (by decide))
set_option maxRecDepth 20000 in
set_option maxHeartbeats 4000000 in
theorem Plan_put3 {s : SpotP} (w : World) (h : TreeAt w t sb sg kb km l L tk) (hR : Rel w l P) (hr : RoomsAt w) (hc : z2k c) (hq : z0k P slot gen i q) (hp : q.planted = true) (hs : SeekW P c (slot, gen) 0 [] s) (hw : s.what = 3)
 (kk : Nat) (dies : List (Int × Int)) (room : Nat) (hask : ∀ w1 b g wc, Below w.heap.size w w1 -> SpotAt w1 b g wc s -> s.way.length <= wc -> Calls Tryz.prog 60 #[.pointer (some ⟨t, 0, none⟩), .pointer (some ⟨b, 0, none⟩)] w1 fun e w' => ∃ da dc, e = .returned (.agg #[z2h s g wc kk, .slice da dies.length dc, .int .i64 room]) /\ w'.ownsRow 0 36 2 (.slice da dies.length dc) dies.length (z1v dies) /\ Below w1.heap.size w1 w') :
 Calls Tryz.prog 28 #[.pointer (some ⟨t, 0, none⟩), .agg #[.int .i64 slot, .int .u32 gen], .string c, .bool true] w fun e w' => ∃ g wc da dc, e = .returned (.tuple #[.agg #[z2h s g wc kk, .slice da dies.length dc, .int .i64 room], .int .i64 0]) /\
  w'.ownsRow 0 36 2 (.slice (some ⟨g, 0, none⟩) s.way.length wc) s.way.length (z1v s.way) /\ w'.ownsRow 0 36 2 (.slice da dies.length dc) dies.length (z1v dies) /\ Below w.heap.size w w' := by
 have hs1 : (w.alloc (.cells #[.int .i64 slot, .int .u32 gen] 36 (0, 0))).heap.size = w.heap.size + 1 := by simp
 have b0 := z0d (o' := (.cells #[.slice none 0 0, .slice none 0 0, .int .i64 0] 90 (0, 0))) (z0a w (.cells #[.int .i64 slot, .int .u32 gen] 36 (0, 0)))
 have b1 := z0a (w.alloc (.cells #[.int .i64 slot, .int .u32 gen] 36 (0, 0))) (.cells #[.slice none 0 0, .slice none 0 0, .int .i64 0] 90 (0, 0))
 rw [hs1] at b1
 have hB : Below w.heap.size w ((w.alloc (.cells #[.int .i64 slot, .int .u32 gen] 36 (0, 0))).alloc (.cells #[.slice none 0 0, .slice none 0 0, .int .i64 0] 90 (0, 0))) := ((Below.refl _ _).alloc (Nat.le_refl _) _).alloc (by simp) _
 have HSK := hid (Seek_at ((w.alloc (.cells #[.int .i64 slot, .int .u32 gen] 36 (0, 0))).alloc (.cells #[.slice none 0 0, .slice none 0 0, .int .i64 0] 90 (0, 0))) (h.keep hB) (hR.keep hB) (hr.keep hB) hc hq hp hs)
 have HWH := hid hw
 have HASK := hid hask
 have HS := hid hs
 have HWM : Hid (s.way.length <= 100) := hid (by have h1 := SeekW.way_le hs; have h2 := hc.size; simp only [List.length_nil] at h1; omega)
 clear h hR hr hc hq hp hs hw hask hs1
 go_enter Tryz.func28, Tryz.ntmps28
 have hmm := @run_makeMap Tryz.prog
 go_wp2_with (first | (go_at_call 30; refine HSK.out.mono ?_; rintro e w2 ⟨wa, wc, rfl, how, hb2⟩; go_loud (rw [HWH.out]; obtain ⟨g, rfl, lg, _⟩ := O.z0x (z2f how (Nat.zero_le _)) (SeekW.z1j HS.out); obtain ⟨W1, W2, W3, W4, r1, r2, r3, r4, L1, L2, L3, L4, hbX⟩ := plan_map (w2.alloc (.cells #[.int .i64 3, .slice (some ⟨g, 0, none⟩) s.way.length wc, .int .i64 s.at_, .int .i64 s.depth] 107 (0, 0))) (w2.heap.size + 1) (by simp); have hsp0 := z0a w2 (.cells #[.int .i64 3, .slice (some ⟨g, 0, none⟩) s.way.length wc, .int .i64 s.at_, .int .i64 s.depth] 107 (0, 0)); have hb24 : Below w2.heap.size w2 W4 := ((Below.refl _ _).alloc (Nat.le_refl _) _).trans (hbX.mono (by simp)); have hsp := (hbX.block _ (lt_of_block hsp0)).trans hsp0; have how4 := O.z0g how (O.z0m (S := fun _ => False) hb24) (fun _ _ h => h); have hSA : SpotAt W4 w2.heap.size g wc s := ⟨(by rw [HWH.out]; exact hsp), z2f how4 (Nat.zero_le _), SeekW.z1j HS.out, HWM.out⟩; have q0 := cell_of hsp 0; have hbw2 := hB.trans (hb2.mono hB.size); have hbw4 := hbw2.trans (hb24.mono hbw2.size); have h12 := (hb2.block _ (lt_of_block b1)).trans b1; have HA := hid (HASK.out W4 w2.heap.size g wc hbw4 hSA (own_cap how)); have HOW := hid hSA.o; have H1 := hid ((hb24.block _ (lt_of_block h12)).trans h12); have HB4 := hid hbw4; clear how hb2 lg hbX hsp0 hb24 hsp how4 hSA hbw2 hbw4 h12)) | (go_at_call 60; refine HA.out.mono ?_; rintro e w5 ⟨da, dc, rfl, hod, hb5⟩; go_loud (unfold z2h; have h1 := (hb5.block _ (lt_of_block H1.out)).trans H1.out; have p0 := cell_of h1 0; have p1 := cell_of h1 1; have p2 := cell_of h1 2; have pf := z0e h1; have H15 := hid h1; have HOD := hid hod; have HOW5 := hid (O.z0g HOW.out (O.z0m (S := fun _ => False) hb5) (fun _ _ h => h)); have HB5 := hid (HB4.out.trans (hb5.mono HB4.out.size)); clear h1 hod hb5)))
 obtain ⟨m1, m2⟩ := set3_at (z2h s g wc kk) (.slice da dies.length dc) (.int .i64 room) H15.out
 have e0 := lt_of_block H15.out
 obtain ⟨fs, hus⟩ : ∃ fs, Tryz.prog.underlying 90 = some (.struct fs) := ⟨_, rfl⟩
 have hR := fun tm hp => z1r (P := Tryz.prog) (fn := Tryz.f28) (p := 8) (u := 9) (ty := 90) (by kernel_rfl) tm _ (w.heap.size + 1) _ _ _ _ hp m1 hus rfl (by kernel_rfl)
 unfold z2h at hR m1 m2
 refine bodyPost_ret (hR _ ?hp) ?hd ?post
 case hp => rfl
 case hd => rfl
 case post =>
  refine ⟨g, wc, da, dc, rfl, ?_, ?_, z0u HB5.out m2 (by omega) (by omega)⟩
  ·exact O.z0g HOW5.out m2 (O.z1h HOW5.out H15.out (by decide))
  ·exact O.z0g HOD.out m2 (O.z1h HOD.out H15.out (by decide))
set_option maxRecDepth 20000 in
set_option maxHeartbeats 4000000 in
theorem Plan_put4 {s : SpotP} (w : World) (h : TreeAt w t sb sg kb km l L tk) (hR : Rel w l P) (hr : RoomsAt w) (hc : z2k c) (hq : z0k P slot gen i q) (hp : q.planted = true) (hs : SeekW P c (slot, gen) 0 [] s) (hw : s.what = 4)
 (kk : Nat) (dies : List (Int × Int)) (room : Nat) (hask : ∀ w1 b g wc, Below w.heap.size w w1 -> SpotAt w1 b g wc s -> s.way.length <= wc -> Calls Tryz.prog 60 #[.pointer (some ⟨t, 0, none⟩), .pointer (some ⟨b, 0, none⟩)] w1 fun e w' => ∃ da dc, e = .returned (.agg #[z2h s g wc kk, .slice da dies.length dc, .int .i64 room]) /\ w'.ownsRow 0 36 2 (.slice da dies.length dc) dies.length (z1v dies) /\ Below w1.heap.size w1 w') :
 Calls Tryz.prog 28 #[.pointer (some ⟨t, 0, none⟩), .agg #[.int .i64 slot, .int .u32 gen], .string c, .bool true] w fun e w' => ∃ g wc da dc, e = .returned (.tuple #[.agg #[z2h s g wc kk, .slice da dies.length dc, .int .i64 room], .int .i64 0]) /\
  w'.ownsRow 0 36 2 (.slice (some ⟨g, 0, none⟩) s.way.length wc) s.way.length (z1v s.way) /\ w'.ownsRow 0 36 2 (.slice da dies.length dc) dies.length (z1v dies) /\ Below w.heap.size w w' := by
 have hs1 : (w.alloc (.cells #[.int .i64 slot, .int .u32 gen] 36 (0, 0))).heap.size = w.heap.size + 1 := by simp
 have b0 := z0d (o' := (.cells #[.slice none 0 0, .slice none 0 0, .int .i64 0] 90 (0, 0))) (z0a w (.cells #[.int .i64 slot, .int .u32 gen] 36 (0, 0)))
 have b1 := z0a (w.alloc (.cells #[.int .i64 slot, .int .u32 gen] 36 (0, 0))) (.cells #[.slice none 0 0, .slice none 0 0, .int .i64 0] 90 (0, 0))
 rw [hs1] at b1
 have hB : Below w.heap.size w ((w.alloc (.cells #[.int .i64 slot, .int .u32 gen] 36 (0, 0))).alloc (.cells #[.slice none 0 0, .slice none 0 0, .int .i64 0] 90 (0, 0))) := ((Below.refl _ _).alloc (Nat.le_refl _) _).alloc (by simp) _
 have HSK := hid (Seek_at ((w.alloc (.cells #[.int .i64 slot, .int .u32 gen] 36 (0, 0))).alloc (.cells #[.slice none 0 0, .slice none 0 0, .int .i64 0] 90 (0, 0))) (h.keep hB) (hR.keep hB) (hr.keep hB) hc hq hp hs)
 have HWH := hid hw
 have HASK := hid hask
 have HS := hid hs
 have HWM : Hid (s.way.length <= 100) := hid (by have h1 := SeekW.way_le hs; have h2 := hc.size; simp only [List.length_nil] at h1; omega)
 clear h hR hr hc hq hp hs hw hask hs1
 go_enter Tryz.func28, Tryz.ntmps28
 have hmm := @run_makeMap Tryz.prog
 go_wp2_with (first | (go_at_call 30; refine HSK.out.mono ?_; rintro e w2 ⟨wa, wc, rfl, how, hb2⟩; go_loud (rw [HWH.out]; obtain ⟨g, rfl, lg, _⟩ := O.z0x (z2f how (Nat.zero_le _)) (SeekW.z1j HS.out); obtain ⟨W1, W2, W3, W4, r1, r2, r3, r4, L1, L2, L3, L4, hbX⟩ := plan_map (w2.alloc (.cells #[.int .i64 4, .slice (some ⟨g, 0, none⟩) s.way.length wc, .int .i64 s.at_, .int .i64 s.depth] 107 (0, 0))) (w2.heap.size + 1) (by simp); have hsp0 := z0a w2 (.cells #[.int .i64 4, .slice (some ⟨g, 0, none⟩) s.way.length wc, .int .i64 s.at_, .int .i64 s.depth] 107 (0, 0)); have hb24 : Below w2.heap.size w2 W4 := ((Below.refl _ _).alloc (Nat.le_refl _) _).trans (hbX.mono (by simp)); have hsp := (hbX.block _ (lt_of_block hsp0)).trans hsp0; have how4 := O.z0g how (O.z0m (S := fun _ => False) hb24) (fun _ _ h => h); have hSA : SpotAt W4 w2.heap.size g wc s := ⟨(by rw [HWH.out]; exact hsp), z2f how4 (Nat.zero_le _), SeekW.z1j HS.out, HWM.out⟩; have q0 := cell_of hsp 0; have hbw2 := hB.trans (hb2.mono hB.size); have hbw4 := hbw2.trans (hb24.mono hbw2.size); have h12 := (hb2.block _ (lt_of_block b1)).trans b1; have HA := hid (HASK.out W4 w2.heap.size g wc hbw4 hSA (own_cap how)); have HOW := hid hSA.o; have H1 := hid ((hb24.block _ (lt_of_block h12)).trans h12); have HB4 := hid hbw4; clear how hb2 lg hbX hsp0 hb24 hsp how4 hSA hbw2 hbw4 h12)) | (go_at_call 60; refine HA.out.mono ?_; rintro e w5 ⟨da, dc, rfl, hod, hb5⟩; go_loud (unfold z2h; have h1 := (hb5.block _ (lt_of_block H1.out)).trans H1.out; have p0 := cell_of h1 0; have p1 := cell_of h1 1; have p2 := cell_of h1 2; have pf := z0e h1; have H15 := hid h1; have HOD := hid hod; have HOW5 := hid (O.z0g HOW.out (O.z0m (S := fun _ => False) hb5) (fun _ _ h => h)); have HB5 := hid (HB4.out.trans (hb5.mono HB4.out.size)); clear h1 hod hb5)))
 obtain ⟨m1, m2⟩ := set3_at (z2h s g wc kk) (.slice da dies.length dc) (.int .i64 room) H15.out
 have e0 := lt_of_block H15.out
 obtain ⟨fs, hus⟩ : ∃ fs, Tryz.prog.underlying 90 = some (.struct fs) := ⟨_, rfl⟩
 have hR := fun tm hp => z1r (P := Tryz.prog) (fn := Tryz.f28) (p := 8) (u := 9) (ty := 90) (by kernel_rfl) tm _ (w.heap.size + 1) _ _ _ _ hp m1 hus rfl (by kernel_rfl)
 unfold z2h at hR m1 m2
 refine bodyPost_ret (hR _ ?hp) ?hd ?post
 case hp => rfl
 case hd => rfl
 case post =>
  refine ⟨g, wc, da, dc, rfl, ?_, ?_, z0u HB5.out m2 (by omega) (by omega)⟩
  ·exact O.z0g HOW5.out m2 (O.z1h HOW5.out H15.out (by decide))
  ·exact O.z0g HOD.out m2 (O.z1h HOD.out H15.out (by decide))
end Go.Proofs.YtgdmfledhhoedaaGreatDoor.T
namespace Go.Burg
open Go
def z1i {α : Type} (l : List (Cel α)) : Nat := (l.filter Cel.room).length
theorem roomN_step {α : Type} {l : List (Cel α)} {k : Nat} {c : Cel α} (h : l[k]? = some c) : z1i (l.take (k + 1)) = z1i (l.take k) + (if c.room = true then 1 else 0) := by
 unfold z1i
 rw [List.take_add_one, h]
 simp only [Option.toList_some, List.filter_append, List.length_append]
 cases hr : c.room <;> simp [hr]
theorem roomN_le {α : Type} (l : List (Cel α)) : z1i l <= l.length := List.length_filter_le _ _
theorem roomN_pos {α : Type} {l : List (Cel α)} {j : Nat} (h : z2q l (j : Int)) : 1 <= z1i l := by
 rcases h with ⟨k, c, _, h1, h2, _⟩ | ⟨h, _⟩
 ·have : c ∈ l.filter Cel.room := List.mem_filter.2 ⟨List.mem_of_getElem? h1, h2⟩
  exact List.length_pos_of_mem this
 ·omega
end Go.Burg
namespace Go.Proofs.YtgdmfledhhoedaaGreatDoor.S
set_option maxRecDepth 8000
open Go.ChangeShapes Go.WideShapes Go.ChangeAt Go.RowKit Go.Burg
variable {l : List (Cel Nd)} {b g : Nat}
set_option maxHeartbeats 2000000 in
theorem count_any (w : World) (h : SlabN 193 150 w b g l) :
 Calls Tryz.prog 62 #[.pointer (some ⟨b, 0, none⟩), .func (.func 63) #[] #[]] w fun e w' => e = .returned (.int .i64 (z1i l)) /\ Below w.heap.size w w' := by
 obtain ⟨c0, f0⟩ := h.head
 have hn := h.top
 have hgl := h.glt
 have HC := hid h.hc
 clear h
 go_enter Tryz.func62, Tryz.ntmps62
 go_wp2_with fail
 clear c0 f0
 go_loopw [4, 12] (fun cv iv wr => ∃ k : Nat, k <= l.length /\ iv = .int .i64 k /\ cv = .int .i64 (z1i (l.take k)) /\ Below w.heap.size w wr) (fun _ iv _ => l.length - (intOf iv).toNat)
 case atStart => exact ⟨0, Nat.zero_le _, rfl, rfl, Below.refl _ _⟩
 case round =>
  obtain ⟨k, hk, rfl, rfl, hB⟩ := hrel
  have HB := hid hB
  have hrl := roomN_le (l.take k)
  rw [List.length_take] at hrl
  by_cases hlt : k < l.length
  ·obtain ⟨⟨c0, c1, c2, c3, c4, c5, c6, c7, c8, c9⟩, cf, g1, g2⟩ := (HC.out.same (hB.block g hgl)).cell (List.getElem?_eq_getElem hlt)
   have HI := hid (List.getElem?_eq_getElem hlt)
   generalize l[k] = c at c0 c1 c2 c3 c4 c5 c6 c7 c8 c9 g1 g2 HI
   obtain ⟨is, ⟨kn, cd, vl, pt, ⟨ya, yn, yc⟩, ⟨za, zn, zc⟩, pl, di⟩, gen⟩ := c
   simp only at c0 c1 c2 c3 c4 c5 c6 c7 c8 c9 g1 g2
   have hd : decide (l.length <= k) = false := by simp; exact hlt
   clear hB
   have HR := hid (fun w => room_any is kn cd vl pt ⟨ya, yn, yc⟩ ⟨za, zn, zc⟩ pl di gen w)
   have hro : (⟨is, ⟨kn, cd, vl, pt, ⟨ya, yn, yc⟩, ⟨za, zn, zc⟩, pl, di⟩, gen⟩ : Cel Nd).room = (!is && decide (gen < 4294967295)) := rfl
   generalize (!is && decide (gen < 4294967295)) = rm at HR hro
   have HRO := hid hro
   clear hro
   cases rm
   ·go_wp2_with (go_at_call 63; refine (HR.out _).mono ?_; rintro e w2 ⟨rfl, hB2⟩; have HB2 := hid hB2; clear hB2)
    have hst := roomN_step HI.out
    rw [HRO.out] at hst
    refine ⟨⟨k + 1, by omega, by go_num, by rw [hst]; simp, ?_⟩, by simp [intOf]; omega⟩
    exact HB.out.trans ((((Below.refl _ _).alloc (Nat.le_refl _) _).trans (HB2.out.mono (by simp))).mono HB.out.size)
   ·go_wp2_with (go_at_call 63; refine (HR.out _).mono ?_; rintro e w2 ⟨rfl, hB2⟩; have HB2 := hid hB2; clear hB2)
    have hst := roomN_step HI.out
    rw [HRO.out] at hst
    refine ⟨⟨k + 1, by omega, by go_num, by rw [hst]; simp, ?_⟩, by simp [intOf]; omega⟩
    exact HB.out.trans ((((Below.refl _ _).alloc (Nat.le_refl _) _).trans (HB2.out.mono (by simp))).mono HB.out.size)
  ·obtain rfl : k = l.length := by omega
   have hd : decide (l.length <= l.length) = true := by simp
   go_wp2_with fail
   go_ret
   rw [List.take_length]
   exact ⟨rfl, HB.out⟩
theorem left_any (w : World) (h : SlabN 193 150 w b g l) : Calls Tryz.prog 29 #[.pointer (some ⟨b, 0, none⟩)] w fun e w' => e = .returned (.int .i64 (z1i l)) /\ Below w.heap.size w w' := by
 have H := hid h
 have HT := hid (there_any w h)
 clear h
 go_enter Tryz.func29, Tryz.ntmps29
 go_wp2_with (first | (go_at_call 61; refine HT.out.mono ?_; rintro e w2 ⟨rfl, hb2⟩; go_loud (have HC := hid (count_any w2 (H.out.keep hb2)); have HB2 := hid hb2; clear hb2)) | (go_at_call 62; refine HC.out.mono ?_; rintro e w3 ⟨rfl, hb3⟩; have HB3 := hid hb3; clear hb3))
 go_ret
 exact ⟨rfl, HB2.out.trans (HB3.out.mono HB2.out.size)⟩
end Go.Proofs.YtgdmfledhhoedaaGreatDoor.S
