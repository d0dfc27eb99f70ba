/- Part 23 of 26. -/
import Derived.Test.YtgdmfledhhoedaaGreatDoorC22
import Derived.Test.YtgdmfledhhoedaaGreatDoorC11
import Derived.Test.YtgdmfledhhoedaaGreatDoorC17
import Derived.Test.YtgdmfledhhoedaaGreatDoorC02
import Derived.Test.YtgdmfledhhoedaaGreatDoorC10
import Derived.Test.YtgdmfledhhoedaaGreatDoorC20
namespace Go.Proofs.YtgdmfledhhoedaaGreatDoor.T
set_option maxRecDepth 8000
open Go.ChangeShapes Go.WideShapes Go.ChangeAt Go.RowKit Go.Burg Go.Shelf
open Go.Burg.Lk
variable {L : List Kd}
theorem kidsL_at {j : Nat} {kd : Kd} (h : L[j]? = some kd) : (z2p L)[j * 2]? = some (.int .i64 kd.s) /\ (z2p L)[j * 2 + 1]? = some (.int .u32 kd.g) := by
 rw [kidsL_refs]
 exact refsL_get (r := (kd.s, kd.g)) (by rw [List.getElem?_map, h]; rfl)
theorem row_at {w : World} {za : Option Addr} {zc : Nat} (h : w.ownsRow 0 36 2 (.slice za L.length zc) L.length (z2p L)) {j : Nat} {kd : Kd} (hj : L[j]? = some kd) :
 ∃ gz cs fr, za = some ⟨gz, 0, none⟩ /\ w.heap[gz]? = some (.cells cs 36 fr) /\ cs[j * 2]? = some (.int .i64 kd.s) /\ cs[j * 2 + 1]? = some (.int .u32 kd.g) := by
 have hl := (List.getElem?_eq_some_iff.1 hj).1
 obtain ⟨g1, e1, _, hc⟩ := O.z0x h (by omega)
 subst e1
 obtain ⟨_, ⟨e, _⟩ | ⟨g, cap, cur, e, _, hg, _⟩⟩ := h
 ·cases e
 ·cases e
  obtain ⟨k0, k1⟩ := kidsL_at hj
  exact ⟨g1, cur, _, rfl, hg, (cell_of hg _).symm.trans (hc _ _ k0), (cell_of hg _).symm.trans (hc _ _ k1)⟩
variable {l : List (Cel Nd)} {P : List (Cel PNd)} {kb km n₀ sb sg t : Nat} {wz : World}
theorem below_own (hRel : Rel wz l P) (Mine : World -> Nat -> Prop) {X : World -> Prop} (hMine : MineX n₀ Mine X)
 {i : Nat} {g : Int} {S : Nat -> Prop} {R : List (Int × Int)} {E : Ents} (hP : Post P i g S R E) :
 ∀ (A : Nat) (w0 : World), w0.heap[A]? = some (.cells #[.pointer (some ⟨t, 0, none⟩)] 25 (0, 0)) -> w0.heap[A + 1]? = some (.cells #[.int .i64 i, .int .u32 g] 36 (0, 0)) -> n₀ <= A -> ¬ Mine w0 A -> ¬ Mine w0 (A + 1) -> X w0 -> SeqOwnC (BelC X wz l S t sb sg kb km) Mine Tryz.prog 107 #[.pointer (some ⟨A, 0, none⟩), .pointer (some ⟨(A + 1), 0, none⟩)] encR n₀ (fun xs => xs = R) (fun pre => pre <+: R) w0 := by
 induction hP with
 | @leaf i g c v pl di h =>
  intro A w0 hA hA1 hn hm1 hm2 hx0
  obtain ⟨⟨xis, ⟨kn, cd, vl, xp, ⟨ya, yn, yc⟩, ⟨za, zn, zc⟩, xpl, xdi⟩, xgn⟩, hLx, _, _, hNx⟩ := hRel.live h
  obtain ⟨_, _, _, _, _, e6⟩ := hNx
  simp only at e6
  cases e6
  obtain rfl : xis = true := hLx.2.2.1
  obtain rfl : xgn = g := hLx.2.2.2
  exact below_walk Mine hMine (R := [((i : Int), xgn)]) (Z := (· = i)) (Ks := []) (ki := fun _ => 0) (Ss := fun _ _ => False) (Rs := fun _ => []) hLx rfl (fun j kd hj => by simp at hj) (fun j kd hj => by simp at hj) (by simp) (fun j x hj => by simp at hj) (fun j j' x r hj => by simp at hj) (fun j kd hj => by simp at hj) A w0 hA hA1 hn hm1 hm2 hx0 (by simp)
 | @node i g k pt L pl di ki Ss Rs Es h hk hs d1 d2 ih =>
  intro A w0 hA hA1 hn hm1 hm2 hx0
  obtain ⟨⟨xis, ⟨kn, cd, vl, xp, ⟨ya, yn, yc⟩, ⟨za, zn, zc⟩, xpl, xdi⟩, xgn⟩, hLx, _, _, hNx⟩ := hRel.live h
  obtain ⟨_, _, _, _, hNI, _⟩ := hNx
  simp only at hNI
  obtain rfl : zn = L.length := O.z1p hNI.z
  obtain rfl : xis = true := hLx.2.2.1
  obtain rfl : xgn = g := hLx.2.2.2
  exact below_walk Mine hMine (Ks := L) (ki := ki) (Ss := Ss) (Rs := Rs) hLx (.inl rfl) (fun j kd hj => row_at hNI.z hj) hk rfl (fun j x hj hx => ⟨.inr ⟨j, hj, hx⟩, d1 j x hj hx⟩)
   (fun j j' x r hj hlt hx hr e => by
    obtain ⟨y, _, h1, h2, _⟩ := (hs j' _ (List.getElem?_eq_getElem (show j' < L.length by omega))).mem r hr
    have : x = y := by omega
    subst this
    have := d2 j j' x hj (by omega) hx h2
    omega)
   (fun j kd hj A w0 a1 a2 a3 a4 a5 a6 => ih j kd hj A w0 a1 (by rw [<- hk j kd hj]; exact a2) a3 a4 a5 a6) A w0 hA hA1 hn hm1 hm2 hx0 hNI.room
attribute [local go_sem] Oper.semAt_some
theorem pAll_at (slot gen : Int) (w : World) :
 Calls Tryz.prog 44 #[.pointer (some ⟨t, 0, none⟩), .agg #[.int .i64 slot, .int .u32 gen]] w fun e w' => e = .returned (.func (.func 84) #[] #[.pointer (some ⟨w.heap.size, 0, none⟩), .pointer (some ⟨(w.heap.size + 1), 0, none⟩)]) /\ w' = (w.alloc (.cells #[.pointer (some ⟨t, 0, none⟩)] 25 (0, 0))).alloc (.cells #[.int .i64 slot, .int .u32 gen] 36 (0, 0)) := by
 have hmf := makeF Tryz.prog
 go_enter Tryz.func44, Tryz.ntmps44
 go_wp2_with fail
 go_ret
 exact ⟨rfl, rfl⟩
def encE (e : ByteArray × ByteArray) : Array Value := #[.string e.1, .string e.2]
structure AllC (X : World -> Prop) (wz : World) (l : List (Cel Nd)) (Z : Nat -> Prop) (t sb sg kb km : Nat) (W : World) : Prop where
 t : ∃ l' L' tk', TreeAt W t sb sg kb km l' L' tk' /\ ∀ x, Z x -> l'[x]? = l[x]?
 r : ∀ (k : Nat) (cs : Array Value) (fr : Nat × Nat), wz.heap[k]? = some (.cells cs 36 fr) -> W.heap[k]? = some (.cells cs 36 fr)
 x : X W
theorem AllC.bel {X : World -> Prop} {Z : Nat -> Prop} {W : World} (h : AllC X wz l Z t sb sg kb km W) (pre : List (Int × Int)) : BelC X wz l Z t sb sg kb km pre W :=
 ⟨by obtain ⟨l', L', tk', a, b⟩ := h.t; exact ⟨l', L', tk', a, fun x hx _ => b x hx⟩, h.r, h.x⟩
theorem prefix_fm {α β : Type} (f : α -> Option β) {a b : List α} (h : a <+: b) : a.filterMap f <+: b.filterMap f := by
 obtain ⟨c, rfl⟩ := h
 rw [List.filterMap_append]
 exact List.prefix_append _ _
set_option maxRecDepth 100000 in
set_option maxHeartbeats 8000000 in
theorem all_own (hRel : Rel wz l P) (Mine : World -> Nat -> Prop) {X : World -> Prop} (hMine : MineX n₀ Mine X)
 {i : Nat} {g : Int} {Z : Nat -> Prop} {R : List (Int × Int)} {E : Ents} {q : PNd} (hP : Post P i g Z R E) (hq : z0k P i g i q) (hp : q.planted = true)
 (A : Nat) (w0 : World) (hA : w0.heap[A]? = some (.cells #[.pointer (some ⟨t, 0, none⟩)] 25 (0, 0))) (hA1 : w0.heap[A + 1]? = some (.cells #[.int .i64 i, .int .u32 g] 36 (0, 0))) (hn : n₀ <= A) (hm1 : ¬ Mine w0 A) (hm2 : ¬ Mine w0 (A + 1)) (hx0 : X w0) :
 SeqOwnC (fun _ W => AllC X wz l Z t sb sg kb km W) Mine Tryz.prog 84 #[.pointer (some ⟨A, 0, none⟩), .pointer (some ⟨(A + 1), 0, none⟩)] encE n₀ (fun xs => xs = E) (fun pre => pre <+: E) w0 := by
 intro LL J Jx W hW hml hJ hJx hC hY h0
 have hb1 := z0b hA hW (lt_of_block hA)
 have hb2 := z0b hA1 hW (lt_of_block hA1)
 have hlA := lt_of_block hA1
 have hm1W := hMine.priv hx0 (by omega) hm1 hW
 have hm2W := hMine.priv hx0 (by omega) hm2 hW
 have hxW := (hC _ _ h0).x
 have HA := hid (z0d (o' := (.cells #[.func (.yield LL) #[] #[]] 121 (0, 0))) hb1)
 have HA1 := hid (z0d (o' := (.cells #[.func (.yield LL) #[] #[]] 121 (0, 0))) hb2)
 have HX := hid (z0a W (.cells #[.func (.yield LL) #[] #[]] 121 (0, 0)))
 have hBW : Below W.heap.size W (W.alloc (.cells #[.func (.yield LL) #[] #[]] 121 (0, 0))) := (Below.refl _ _).alloc (Nat.le_refl _) _
 have hsz := hW.size
 obtain ⟨c, hL, hcp, _⟩ := hRel.live hq
 obtain ⟨l', L', tk', hT, hlx⟩ := (hC _ _ h0).t
 have hL' : S.Live l' i g i c := ⟨hL.1, (hlx i hP.self).trans hL.2.1, hL.2.2⟩
 rw [hp] at hcp
 have hT := hT.keep hBW
 have HY := hid hY
 have HC := hid hC
 have HP := hid hP
 have HREL := hid hRel
 have HJ0 := hid (own_below hJ h0 hBW)
 have HM : Hid (¬ Mine (W.alloc (.cells #[.func (.yield LL) #[] #[]] 121 (0, 0))) A /\ ¬ Mine (W.alloc (.cells #[.func (.yield LL) #[] #[]] 121 (0, 0))) (A + 1) /\ ¬ Mine (W.alloc (.cells #[.func (.yield LL) #[] #[]] 121 (0, 0))) W.heap.size) := hid ⟨hMine.priv hxW (by omega) hm1W hBW, hMine.priv hxW (by omega) hm2W hBW, hMine.priv hxW (by omega) (fun h => absurd (hml _ h) (Nat.lt_irrefl _)) hBW⟩
 have HXB := hid (hMine.xb hxW (by omega) hBW)
 clear hA hA1 hW hb1 hb2 hY h0 hm1 hm2 hm1W hm2W hlx hC hml hP hRel hL hq hp hx0 hxW
 refine (callsIn_wide (n := 8)).1 ?_
 refine callsIn_of_wp_marks Tryz.func84 rfl trivial ?_ rfl
 refine wpIn_wide.2 ?_
 simp only [Tryz.ntmps84, List.size_toArray, List.length_cons, List.length_nil, Nat.reduceAdd, Nat.reduceSub, Array.replicate_succ, Array.replicate_zero, List.push_toArray, List.append_toArray, List.nil_append, List.cons_append]
 go_wp2_with fail
 generalize hWb : W.alloc (.cells #[.func (.yield LL) #[] #[]] 121 (0, 0)) = Wb at *
 generalize hU : W.heap.size = U at *
 have HT := hid (fun (w1 : World) (hw1 : Below Wb.heap.size Wb w1) => planted_at i g w1 (hT.keep hw1) hL')
 have HTM := hid (fun (w1 : World) (hw1 : Below Wb.heap.size Wb w1) => tmade_at w1 (hT.keep hw1).ht)
 rw [hcp] at HT
 have HBW := hid hBW
 clear hT hL' hBW hcp
 refine z0h 11 (fun w1 => Below (Wb).heap.size (Wb) w1) (by kernel_rfl) (by kernel_rfl) (by kernel_rfl) ⟨rfl, rfl, rfl, Nat.le_refl _, fun _ _ => rfl⟩ ?_
 dsimp only [List.take]
 iterate 11
  refine Seq.cons (a' := ?_) ?_ ?_ ?_
  rotate_left
  ·intro w1 hw1
   have a0 := cell_of (z0b HA.out hw1 (lt_of_block HA.out)) 0; have a1 := cell_of (z0b HA1.out hw1 (lt_of_block HA1.out)) 0; have a2 := cell_of (z0b HA1.out hw1 (lt_of_block HA1.out)) 1
   go_wp2_with ((first | (go_at_call 56; refine (HTM.out _ hw1).mono ?_; rintro e w' ⟨rfl, rfl⟩) | (go_at_call 37; refine (HT.out _ hw1).mono ?_; rintro e w' ⟨rfl, hb⟩)))
   refine ⟨?_, by first | assumption | (simpa using z0c hw1 hb hw1.size)⟩
   exact rfl
  ·kernel_rfl
 refine SeqI.nil ?_
 intro _ w1 _ hw1
 dsimp only [List.drop]
 have HJ1 := hid (own_below hJ HJ0.out hw1)
 have k1 := z0b HA.out hw1 (lt_of_block HA.out)
 have k2 := z0b HA1.out hw1 (lt_of_block HA1.out)
 have kx := z0b HX.out hw1 (lt_of_block HX.out)
 have hWbs : U < Wb.heap.size := lt_of_block HX.out
 have hw1s := hw1.size
 have HM1 : Hid (¬ Mine w1 A /\ ¬ Mine w1 (A + 1) /\ ¬ Mine w1 U) := hid ⟨hMine.priv HXB.out (by omega) HM.out.1 hw1, hMine.priv HXB.out (by omega) HM.out.2.1 hw1, hMine.priv HXB.out (by omega) HM.out.2.2 hw1⟩
 have hx1 := hMine.xb HXB.out (by omega) hw1
 have HBW1 := hid (z0c HBW.out hw1 (by omega))
 have a0 := cell_of k1 0
 have a1 := cell_of k2 0
 have a2 := cell_of k2 1
 clear hw1 HJ0 HA HA1 HX HT HM HBW HTM
 go_wp2_with fail
 refine (below_at i g _).mono ?_
 rintro e w2 ⟨rfl, rfl⟩
 clear a0 a1 a2
 go_wp2_with fail
 have kB : ((w1.alloc (.cells #[.pointer (some ⟨t, 0, none⟩)] 25 (0, 0))).alloc (.cells #[.int .i64 i, .int .u32 g] 36 (0, 0))).heap[w1.heap.size]? = some (.cells #[.pointer (some ⟨t, 0, none⟩)] 25 (0, 0)) := z0d (z0a _ _)
 have kB1 : ((w1.alloc (.cells #[.pointer (some ⟨t, 0, none⟩)] 25 (0, 0))).alloc (.cells #[.int .i64 i, .int .u32 g] 36 (0, 0))).heap[w1.heap.size + 1]? = some (.cells #[.int .i64 i, .int .u32 g] 36 (0, 0)) := by
  have := z0a (w1.alloc (.cells #[.pointer (some ⟨t, 0, none⟩)] 25 (0, 0))) (.cells #[.int .i64 i, .int .u32 g] 36 (0, 0))
  simpa using this
 have hsl : ((w1.alloc (.cells #[.pointer (some ⟨t, 0, none⟩)] 25 (0, 0))).alloc (.cells #[.int .i64 i, .int .u32 g] 36 (0, 0))).heap.size = w1.heap.size + 2 := by simp
 have hbl : Below w1.heap.size w1 ((w1.alloc (.cells #[.pointer (some ⟨t, 0, none⟩)] 25 (0, 0))).alloc (.cells #[.int .i64 i, .int .u32 g] 36 (0, 0))) := ((Below.refl _ _).alloc (Nat.le_refl _) _).alloc (by simp) _
 generalize ((w1.alloc (.cells #[.pointer (some ⟨t, 0, none⟩)] 25 (0, 0))).alloc (.cells #[.int .i64 i, .int .u32 g] 36 (0, 0))) = Wl at *
 have hJl := own_below hJ HJ1.out hbl
 have c1 := (hbl.block _ (lt_of_block k1)).trans k1
 have c2 := (hbl.block _ (lt_of_block k2)).trans k2
 have cx := (hbl.block _ (lt_of_block kx)).trans kx
 have hnw : n₀ <= w1.heap.size := by omega
 have hml : ¬ Mine Wl A /\ ¬ Mine Wl (A + 1) /\ ¬ Mine Wl U := ⟨hMine.priv hx1 hnw HM1.out.1 hbl, hMine.priv hx1 hnw HM1.out.2.1 hbl, hMine.priv hx1 hnw HM1.out.2.2 hbl⟩
 have hnm : ∀ k, w1.heap.size <= k -> ¬ Mine Wl k := fun k hk hm => by
  have h1 := hMine.lt hx1 (hMine.grow hx1 hnw (z1e hbl) (fun r e => by cases e) hm)
  omega
 have hxl := hMine.xb hx1 hnw hbl
 have hUH := lt_of_block kx
 generalize w1.heap.size = H at *
 have hso : SeqOwnC (BelC X wz l Z t sb sg kb km) Mine Tryz.prog 107 #[.pointer (some ⟨H, 0, none⟩), .pointer (some ⟨(H + 1), 0, none⟩)] encR n₀ (fun xs => xs = R) (fun pre => pre <+: R) Wl :=
  below_own HREL.out Mine hMine HP.out H Wl kB kB1 (by omega) (hnm _ (Nat.le_refl _)) (hnm _ (by omega)) hxl
 have hI : OwnFrom Wl.heap.size (fun (pre : List (Int × Int)) W => J (pre.filterMap (leafAt P)) W /\ (W.heap[A]? = some (.cells #[.pointer (some ⟨t, 0, none⟩)] 25 (0, 0)) /\ W.heap[A + 1]? = some (.cells #[.int .i64 i, .int .u32 g] 36 (0, 0)) /\ W.heap[U]? = some (.cells #[.func (.yield LL) #[] #[]] 121 (0, 0))) /\ (¬ Mine W A /\ ¬ Mine W (A + 1) /\ ¬ Mine W U) /\ pre <+: R) := by
  intro s A' C row hs hg hr
  have e : ∀ (k : Nat), k < Wl.heap.size -> k < A'.heap.size -> C.heap[k]? = A'.heap[k]? := fun k hk hA => hg.block k hA (fun e => by have := (hr k e.symm).1; omega)
  obtain ⟨h1, ⟨c1', c2', c3'⟩, ⟨m1, m2, m3⟩, h4⟩ := hs
  have hnA : n₀ <= A'.heap.size := by have := lt_of_block c1'; omega
  have gm : ∀ k, Mine C k -> Mine A' k := fun k => hMine.grow (HC.out _ _ h1).x hnA hg (fun r e => ⟨by have := (hr r e).1; omega, (hr r e).2⟩)
  exact ⟨hJ _ A' C row h1 hg (fun r e => ⟨by have := (hr r e).1; omega, (hr r e).2⟩), ⟨(e _ (by omega) (lt_of_block c1')).trans c1', (e _ (by omega) (lt_of_block c2')).trans c2', (e _ (by omega) (lt_of_block c3')).trans c3'⟩, ⟨fun h => m1 (gm _ h), fun h => m2 (gm _ h), fun h => m3 (gm _ h)⟩, h4⟩
 have hX : OwnFrom Wl.heap.size (fun (pre : List (Int × Int)) W => Jx (pre.filterMap (leafAt P)) W) := fun s A' C row hs hg hr => hJx _ A' C row hs hg (fun r e => ⟨by have := (hr r e).1; omega, (hr r e).2⟩)
 have HI := hid hI
 have HX := hid hX
 have HSO := hid hso
 have HJX := hid hJx
 have HJo := hid hJ
 have HJ0 := hid (And.intro hJl (And.intro (And.intro c1 (And.intro c2 cx)) (And.intro hml (List.nil_prefix (l := R)))))
 have HML : Hid (∀ i, Mine Wl i -> i < Wl.heap.size) := hid (fun _ => hMine.lt hxl)
 have HHS := hid hsl
 clear hI hX hso hJl c1 c2 cx hml hnm kB kB1 hbl hx1 hxl k1 k2 kx HJ1 HM1 HBW1 hJx hJ
 refine wpIn_wide.1 (range_ownC (n := 8) (by decide) (gf := 107) (lb := #[.pointer (some ⟨H, 0, none⟩), .pointer (some ⟨(H + 1), 0, none⟩)]) rfl (enters_of Tryz.func107 (by kernel_rfl) rfl) Mine hMine (BelC X wz l Z t sb sg kb km) (fun _ _ h => h.x) HSO.out (by have := HHS.out; omega) HML.out (Below.refl _ _) (fun _ => rfl)
  (fun (pre : List (Int × Int)) W => J (pre.filterMap (leafAt P)) W /\ (W.heap[A]? = some (.cells #[.pointer (some ⟨t, 0, none⟩)] 25 (0, 0)) /\ W.heap[A + 1]? = some (.cells #[.int .i64 i, .int .u32 g] 36 (0, 0)) /\ W.heap[U]? = some (.cells #[.func (.yield LL) #[] #[]] 121 (0, 0))) /\ (¬ Mine W A /\ ¬ Mine W (A + 1) /\ ¬ Mine W U) /\ pre <+: R) (fun (pre : List (Int × Int)) W => Jx (pre.filterMap (leafAt P)) W) HI.out HX.out (fun pre W1 h => (HC.out _ _ h.1).bel pre) HJ0.out
  (fun (x : Int × Int) a' W => ∃ b, W.heap[b]? = some (.cells #[.int .i64 x.1, .int .u32 x.2] 36 (0, 0)) /\ a' = { tmps := #[.func (.yield LL) #[] #[], .pointer (some ⟨A, 0, none⟩), .pointer (some ⟨(A + 1), 0, none⟩), .pointer (some ⟨U, 0, none⟩), .pointer (some ⟨b, 0, none⟩), undef, .pointer (some ⟨t, 0, none⟩), .bool true, .bool false, .bool false, .pointer (some ⟨t, 0, none⟩), .pointer (some ⟨t, 0, none⟩), .pointer (some ⟨t, 0, none⟩), .agg #[.int .i64 i, .int .u32 g], .bool true, .bool false, .bool false, .pointer (some ⟨t, 0, none⟩), .agg #[.int .i64 i, .int .u32 g], .func (.func 107) #[] #[.pointer (some ⟨H, 0, none⟩), .pointer (some ⟨(H + 1), 0, none⟩)], .agg #[.int .i64 x.1, .int .u32 x.2], undef, undef, undef, undef, undef, undef, undef, undef, undef, undef, undef, undef, undef, undef, undef, undef, undef], defers := [] }) ?hAx ?assign ?body ?done ?stop)
 case hAx =>
  rintro x a' _ A' C row ⟨b, h1, h2⟩ hg hr
  refine ⟨b, (hg.block b (lt_of_block h1) (fun e => ?_)).trans h1, h2⟩
  obtain ⟨_, o, h3, h4⟩ := hr b e.symm
  rw [h1] at h3
  cases h3
  cases h4
 case assign =>
  intro l0 pre x W1 K hi hK
  unfold encR
  gi_wp2_with fail
  have hbw : Below W1.heap.size W1 (W1.alloc (.cells #[.int .i64 x.1, .int .u32 x.2] 36 (0, 0))) := (Below.refl _ _).alloc (Nat.le_refl _) _
  obtain ⟨hj1, ⟨c1, c2, c3⟩, ⟨m1, m2, m3⟩, h4⟩ := hi
  have hn1 : n₀ <= W1.heap.size := by have := lt_of_block c1; omega
  have hx1 := (HC.out _ _ hj1).x
  refine hK _ _ ((KeepsOthers.alloc _ _).from _) (hMine.below hx1 hn1 hbw) ⟨own_below HJo.out hj1 hbw, ⟨(hbw.block _ (lt_of_block c1)).trans c1, (hbw.block _ (lt_of_block c2)).trans c2, (hbw.block _ (lt_of_block c3)).trans c3⟩, ⟨hMine.priv hx1 hn1 m1 hbw, hMine.priv hx1 hn1 m2 hbw, hMine.priv hx1 hn1 m3 hbw⟩, h4⟩ ⟨W1.heap.size, z0a _ _, ?_⟩
  rfl
 case body =>
  rintro l0 pre ⟨x1, x2⟩ a' W1 hl hrec ⟨hj1, hc3, hmm, _⟩ ⟨b, hb, rfl⟩ hlen1
  obtain ⟨xi, qx, e1, hZx, hLq⟩ := HP.out.mem (x1, x2) (hlen1.subset (by simp))
  simp only at e1 hLq
  subst e1
  obtain ⟨⟨xis, ⟨kn, cd, vl, xp, ⟨ya, yn, yc⟩, ⟨za, zn, zc⟩, xpl, xdi⟩, xgn⟩, hLx, _, _, hNx⟩ := HREL.out.live hLq
  obtain ⟨l2, L2, tk2, hT2, hlx2⟩ := (HC.out _ _ hj1).t
  have hLx2 : S.Live l2 (xi : Int) x2 xi ⟨xis, ⟨kn, cd, vl, xp, ⟨ya, yn, yc⟩, ⟨za, zn, zc⟩, xpl, xdi⟩, xgn⟩ := ⟨hLx.1, (hlx2 xi hZx).trans hLx.2.1, hLx.2.2⟩
  have HNW := hid (fun w1 (hw1 : Below W1.heap.size W1 w1) => node_at (xi : Int) x2 w1 (hT2.keep hw1) hLx2)
  have HJ1 := hid hj1
  have HC3 := hid hc3
  have HMM := hid hmm
  have HB := hid hb
  have HLQ := hid hLq
  have HNX := hid hNx
  have HLEN := hid hlen1
  have hlW := lt_of_block hc3.1
  clear hj1 hc3 hmm hb hLq hNx hlen1 hLx hLx2 hT2 hlx2
  gi_wp2_with fail
  have HOK := hid (NJOk.calm (W0 := W1) (T := 102) (z := #[.int .i64 0, .string ⟨#[]⟩, .string ⟨#[]⟩, .string ⟨#[]⟩, .slice none 0 0, .slice none 0 0]) (o := #[.int .i64 kn, .string cd, .string vl, .string xp, .slice ya yn yc, .slice za zn zc]) (dl := fun _ => []))
  refine rgn_tab (fok_round _ _) 7 [5] (fun xs => [.pointer (some ⟨t, 0, none⟩), .pointer (some ⟨t, 0, none⟩), .pointer (some ⟨t, 0, none⟩), .agg #[.int .i64 xi, .int .u32 x2], .agg #[.int .i64 kn, .string cd, .string vl, .string xp, .slice ya yn yc, .slice za zn zc], xs 5, undef]) (NJ (fun _ => False) (fun _ => True) (fun _ => True) (fun _ _ _ => True) W1 102 #[.int .i64 0, .string ⟨#[]⟩, .string ⟨#[]⟩, .string ⟨#[]⟩, .slice none 0 0, .slice none 0 0] (fun _ => #[.int .i64 kn, .string cd, .string vl, .string xp, .slice ya yn yc, .slice za zn zc]) [] [] 99 5 6 [] [] (fun _ => []) (fun _ => undef) (fun _ _ => undef)) (NJ.start trivial) (fun xs ys h => by simp [h]) ?_ ?_
  ·dsimp only [List.take, z1a, OpT, z1n]
   (repeat' refine And.intro ?_ ?_) <;> first | refine .inl ⟨rfl, ?_⟩ | refine .inr ⟨rfl, ?_⟩
   iterate 5
    ·intro D xs w1 hDk hwt hJ
     have n2 := cell_of (((hJ.m.below (Nat.le_refl _) (fun _ _ e => e)).block _ (lt_of_block HC3.out.1)).trans HC3.out.1) 0; have hr := ((hJ.m.below (Nat.le_refl _) (fun _ _ e => e)).block _ (lt_of_block HB.out)).trans HB.out; have n0 := cell_of hr 0; have n1 := cell_of hr 1; clear hr; have HND := hid (HNW.out w1 (hJ.m.below (Nat.le_refl _) (fun _ _ e => e)))
     have HJ := hid hJ
     have HD := hid hDk
     clear hDk hwt hJ
     go_wp2_with (go_at_call 32; refine HND.out.mono ?_; rintro e w2 ⟨rfl, hb2⟩)
     refine ⟨by kernel_rfl, ?_⟩
     intros
     exact NJ.calm HOK.out HJ.out HD.out (by first | exact Below.refl _ _ | assumption)
   ·intro D xs w1 hDk hwt hJ
    have HJ := hid hJ
    have HD := hid hDk
    clear hDk hwt hJ
    go_wp2_with fail
    first | exact ⟨_, by kernel_rfl, fun u hu => by obtain rfl := hu rfl; exact NJ.alloc HOK.out HJ.out HD.out⟩ | exact ⟨_, by kernel_rfl, NJ.alloc HOK.out HJ.out HD.out⟩
   ·intro D xs w1 hDk hwt hJ
    have hA := hwt 5 (eM (by kernel_rfl))
    obtain ⟨b0, hb0, eb0, hc0⟩ := hJ.a hA
    rw [eb0]
    have HEB := hid eb0
    clear eb0
    rw [show D 6 = false from hDk] at hc0
    simp only [cond_false] at hc0
    have q0 := cell_of hc0 0
    have q1 := cell_of hc0 1
    have q2 := cell_of hc0 2
    have q3 := cell_of hc0 3
    have q4 := cell_of hc0 4
    have q5 := cell_of hc0 5
    have qf := z0e hc0
    have HC := hid hc0
    clear hc0
    have HJ := hid hJ
    have HD := hid hDk
    clear hDk hwt hJ
    go_wp2_with fail
    obtain ⟨m1, m2⟩ := (set6_mod _ _ _ _ _ _ HC.out)
    refine ⟨by kernel_rfl, ?_⟩; intros; exact NJ.store HOK.out HJ.out HD.out hA (fun k h => by simp at h) HEB.out m2 m1
  intro D xs w7 hD hJ
  obtain ⟨u, hu, eu, hc⟩ := hJ.a (hD 5 (by omega))
  rw [hD 6 (by omega)] at hc
  simp only [cond_true] at hc
  have HBu := hid (hJ.m.below (Nat.le_refl _) (fun _ _ e => e))
  have HOu := hid hc
  have HLu := hid hu
  dsimp only [List.take, z1n, List.drop]
  rw [eu]
  clear hD hJ eu hc hu HOK
  have o0 := cell_of HOu.out 0
  have o1 := cell_of HOu.out 1
  have o2 := cell_of HOu.out 2
  have x0 := cell_of ((HBu.out.block _ (lt_of_block HC3.out.2.2)).trans HC3.out.2.2) 0
  have HJ7 := hid (own_below HJo.out HJ1.out HBu.out)
  obtain ⟨qn, qp, qd⟩ := qx
  cases qn with
  | leaf cc vv =>
   obtain ⟨rfl, rfl, rfl, _⟩ := HNX.out
   have hfm : (pre ++ [((xi : Int), x2)]).filterMap (leafAt P) = pre.filterMap (leafAt P) ++ [(cd, vl)] := by rw [List.filterMap_append]; simp [leafAt_leaf HLQ.out]
   obtain ⟨fn, tmps, assign, body, hy, hR1⟩ := HY.out _ (cd, vl) _ 5 HJ7.out (by rw [<- hfm, <- HP.out.leaves]; exact prefix_fm _ HLEN.out)
   unfold encE at hy
   try dsimp only at hy
   rw [<- hfm] at hR1
   have HRR := hid (z2s l0 hR1)
   clear hR1 hfm HJ7
   gi_wp2_with fail
   refine HRR.out.mono ?_
   rintro e W3 (⟨rfl, hJ3, hk3, hq3⟩ | ⟨rfl, hJx3, hq3⟩)
   ·have HQ := hid (And.intro hJ3 (And.intro hk3 hq3))
    clear hJ3 hk3 hq3 HRR
    gi_wp2_with fail
    obtain ⟨hJ3, hk3, hq3⟩ := HQ.out
    obtain ⟨c1, c2, c3⟩ := HC3.out
    obtain ⟨m1, m2, m3⟩ := HMM.out
    have hbu := HBu.out
    have hn1 : n₀ <= W1.heap.size := by have := lt_of_block c1; omega
    have hkp := (hMine.below (HC.out _ _ HJ1.out).x hn1 hbu).trans hk3
    refine ⟨(z1x hbu).trans (z0p hq3 (by omega)), hkp, hJ3, ⟨hkp.cells A _ (by omega) m1 c1 rfl, hkp.cells (A + 1) _ (by omega) m2 c2 rfl, hkp.cells U _ (by omega) m3 c3 rfl⟩, ⟨hkp.priv m1 (lt_of_block c1), hkp.priv m2 (lt_of_block c2), hkp.priv m3 (lt_of_block c3)⟩, HLEN.out⟩
   ·have HQ := hid (And.intro hJx3 hq3)
    clear hJx3 hq3 HRR
    gi_wp2_with fail
    obtain ⟨hJx3, hq3⟩ := HQ.out
    have hbu := HBu.out
    exact ⟨(z1x hbu).trans (z0p hq3 (by omega)), hJx3⟩
  | z0j k pt Lk =>
   obtain ⟨rfl, _, _, _, hNI, _⟩ := HNX.out
   have hfm : (pre ++ [((xi : Int), x2)]).filterMap (leafAt P) = pre.filterMap (leafAt P) := by rw [List.filterMap_append]; simp [leafAt_inner HLQ.out]
   have hk1 : ((k : Int) == 1) = false := by have := hNI.k1; exact beq_false_of_ne (by omega)
   clear hNI
   gi_wp2_with fail
   refine ⟨fun f h => (by cases h), ?_⟩
   gi_wp2_with fail
   obtain ⟨c1, c2, c3⟩ := HC3.out
   obtain ⟨m1, m2, m3⟩ := HMM.out
   have hbu := HBu.out
   have hn1 : n₀ <= W1.heap.size := by have := lt_of_block c1; omega
   have hkp := hMine.below (HC.out _ _ HJ1.out).x hn1 hbu
   refine ⟨z1x hbu, hkp, by rw [hfm]; exact HJ7.out, ⟨hkp.cells A _ (by omega) m1 c1 rfl, hkp.cells (A + 1) _ (by omega) m2 c2 rfl, hkp.cells U _ (by omega) m3 c3 rfl⟩, ⟨hkp.priv m1 (lt_of_block c1), hkp.priv m2 (lt_of_block c2), hkp.priv m3 (lt_of_block c3)⟩, HLEN.out⟩
 case done =>
  rintro D xs W4 hD rfl ⟨hj, _⟩ hK
  rw [HP.out.leaves] at hj
  have HJ4 := hid hj
  have HKK := hid hK
  clear hj hK
  go_wp2_with fail
  refine ⟨by simp, .inl ⟨_, _, rfl, run_takeDeferred HKK.out, ?_⟩⟩
  exact ⟨_, results_none rfl _ _ _, ⟨_, rfl⟩, .inl ⟨_, rfl, HJo.out.putObj (.deferred none) HJ4.out (by omega) HKK.out rfl⟩⟩
 case stop =>
  rintro D pre W4 hD hpre hj hK
  gi_wp2_with fail
  refine ⟨by simp, .inl ⟨_, _, rfl, run_takeDeferred hK, ?_⟩⟩
  refine ⟨_, results_none rfl _ _ _, ⟨_, rfl⟩, .inr ⟨_, ?_, HJX.out.putObj (.deferred none) hj (by omega) hK rfl⟩⟩
  have := prefix_fm (leafAt P) hpre
  rwa [HP.out.leaves] at this
end Go.Proofs.YtgdmfledhhoedaaGreatDoor.T
namespace Go.Burg
open Go Go.RowKit
def codeB (k : ByteArray) : ByteArray := ⟨(encL (byt k)).toArray⟩
theorem byt_codeB (k : ByteArray) : byt (codeB k) = encL (byt k) := by simp [byt, codeB]
theorem codeB_coded {k : ByteArray} (h : k.size <= 16) : z2k (codeB k) := ⟨byt k, byt_codeB k, by rw [z0z]; exact h⟩
theorem byt_app (a b : ByteArray) : byt (a ++ b) = byt a ++ byt b := by simp [byt]
def encT : List UInt8 -> List UInt8
 | [] => []
 | x :: l => if x = 0 then 0 :: 1 :: encT l else x :: encT l
theorem encT_end : ∀ l, encT l ++ [0, 0] = encL l
 | [] => rfl
 | x :: l => by
  have := encT_end l
  unfold encT encL
  split <;> simp [this]
theorem encT_app : ∀ l m, encT (l ++ m) = encT l ++ encT m
 | [], m => rfl
 | x :: l, m => by
  have := encT_app l m
  simp only [List.cons_append]
  rw [encT, encT]
  split <;> simp [this]
variable {c : ByteArray} {k : Nat}
theorem take_next {x : UInt8} (h : (byt c)[k]? = some x) : (byt c).take (k + 1) = (byt c).take k ++ [x] := by
 have := (List.getElem?_eq_some_iff.1 h)
 obtain ⟨h1, h2⟩ := this
 rw [List.take_add_one, h]
 rfl
theorem encT_len : ∀ l, (encT l).length <= 2 * l.length
 | [] => Nat.le_refl _
 | x :: l => by
  have := encT_len l
  unfold encT
  split <;> simp <;> omega
def encB' (c : ByteArray) (k : Nat) : ByteArray := ⟨(encT ((byt c).take k)).toArray⟩
theorem encB'_size (c : ByteArray) (k : Nat) : (encB' c k).size <= 2 * c.size := by
 have h := encT_len ((byt c).take k)
 have h2 : ((byt c).take k).length <= c.size := by rw [List.length_take, z0z]; omega
 have h3 : (encB' c k).size = (encT ((byt c).take k)).length := by simp [encB', ByteArray.size]
 omega
theorem encB'_next {x : UInt8} (h : (byt c)[k]? = some x) : encB' c k ++ c.extract k (k + 1) ++ (if x = 0 then ⟨#[1]⟩ else ⟨#[]⟩) = encB' c (k + 1) := by
 have byt_inj' : ∀ {a b : ByteArray}, byt a = byt b -> a = b := fun {a b} h => by
  cases a
  cases b
  simp only [byt] at h
  rw [Array.toList_inj.1 h]
 apply byt_inj'
 rw [byt_app, byt_app]
 have e1 : byt (encB' c k) = encT ((byt c).take k) := by simp [byt, encB']
 have e2 : byt (encB' c (k + 1)) = encT ((byt c).take (k + 1)) := by simp [byt, encB']
 have e3 : byt (c.extract k (k + 1)) = [x] := by
  have := (List.getElem?_eq_some_iff.1 h)
  obtain ⟨h1, h2⟩ := this
  simp only [byt, ByteArray.data_extract, Array.toList_extract] at *
  simp only [List.extract, Nat.add_sub_cancel_left]
  rw [show c.data.toList = byt c from rfl, List.drop_eq_getElem_cons h1]
  have h3 : (byt c)[k] = x := h2
  simp [h3]
 rw [e1, e2, e3, take_next h, encT_app]
 by_cases hx : x = 0
 ·subst hx
  rw [if_pos rfl]
  simp [encT, byt]
 ·rw [if_neg hx]
  simp [encT, byt, hx]
end Go.Burg
namespace Go.Proofs.YtgdmfledhhoedaaGreatDoor.R
set_option maxRecDepth 8000
open Go.ChangeShapes Go.WideShapes Go.ChangeAt Go.RowKit Go.Burg
variable {c : ByteArray}
theorem Code_at (w : World) (h : c.size <= 1000) : Calls Tryz.prog 40 #[.string c] w fun e w' => e = .returned (.string (codeB c)) /\ w' = w := by
 go_enter Tryz.func40, Tryz.ntmps40
 go_wp2_with fail
 go_loopw [3, 4] (fun sv iv wr => ∃ k : Nat, k <= c.size /\ sv = .string (encB' c k) /\ iv = .int .i64 k /\ wr = w) (fun _ iv _ => c.size - (intOf iv).toNat)
 case atStart => exact ⟨0, Nat.zero_le _, rfl, rfl, rfl⟩
 case round =>
  obtain ⟨k, hk, rfl, rfl, rfl⟩ := hrel
  by_cases hlt : k < c.size
  ·have ex := byt_get hlt
   generalize c[k] = x at ex
   have r1 : ∀ w, (Instr.index 9 (.string c) (.int .i64 k)).run Tryz.prog w = .ok (.int .u8 (x.toNat : Int)) w := fun w => run_byte w _ c k x (by kernel_rfl) ex
   have r2 : ∀ w, (Instr.slice 9 (.string c) (some (.int .i64 k)) (some (.int .i64 ((k : Int) + 1))) none).run Tryz.prog w = .ok (.string (c.extract k (k + 1))) w := fun w => by
    have := run_slice_string (P := Tryz.prog) w 9 c .i64 .i64 (k : Int) ((k : Int) + 1) (by kernel_rfl) (by omega) (by omega) (by omega)
    simpa using this
   have hn := encB'_next ex
   have hz := encB'_size c k
   by_cases hx : x = 0
   ·subst hx
    rw [if_pos rfl] at hn
    have HN := hid hn
    clear hn ex
    go_wp2_with fail
    rw [HN.out]
    go_roundw
    case rel => exact ⟨k + 1, by omega, rfl, by go_num, by first | rfl | trivial⟩
    case measure => simp [intOf]; omega
   ·rw [if_neg hx] at hn
    have hd : ((x.toNat : Int) == 0) = false := by
     refine beq_false_of_ne (fun e => hx (UInt8.toNat_inj.1 ?_))
     simpa using e
    have HN := hid hn
    clear hn ex
    go_wp2_with fail
    go_roundw
    case rel => exact ⟨k + 1, by omega, by rw [<- HN.out]; exact congrArg Value.string (ByteArray.ext (by simp)), by go_num, by first | rfl | trivial⟩
    case measure => simp [intOf]; omega
  ·obtain rfl : k = c.size := by omega
   have hz := encB'_size c c.size
   go_wp2_with fail
   go_ret
   refine ⟨?_, rfl⟩
   have e : encB' c c.size ++ ⟨#[0, 0]⟩ = codeB c := by
    unfold encB' codeB
    rw [List.take_of_length_le (by rw [z0z]; exact Nat.le_refl _), <- encT_end]
    apply ByteArray.ext
    simp
   rw [<- e]
   rfl
def keyOf (k : ByteArray) : ByteArray := if 16 < k.size then ⟨#[]⟩ else k
theorem keyOf_size (k : ByteArray) : (keyOf k).size <= 16 := by
 unfold keyOf
 split
 ·decide
 ·omega
theorem lcode_at (w : World) : Calls Tryz.prog 9 #[.string c] w fun e w' => e = .returned (.string (codeB (keyOf c))) /\ w' = w := by
 by_cases h : 16 < c.size
 ·have hd : decide ((c.size : Int) > 16) = true := by simp; omega
  have HC := hid (Code_at (c := ⟨#[]⟩) w (by decide))
  have e : keyOf c = ⟨#[]⟩ := if_pos h
  rw [e]
  go_enter Tryz.func9, Tryz.ntmps9
  go_wp2_with (go_at_call 40; refine HC.out.mono ?_; rintro e w2 ⟨rfl, rfl⟩)
  go_ret
  exact ⟨rfl, rfl⟩
 ·have hd : decide ((c.size : Int) > 16) = false := by simp; omega
  have HC := hid (Code_at (c := c) w (by omega))
  have e : keyOf c = c := if_neg h
  rw [e]
  go_enter Tryz.func9, Tryz.ntmps9
  go_wp2_with (go_at_call 40; refine HC.out.mono ?_; rintro e w2 ⟨rfl, rfl⟩)
  go_ret
  exact ⟨rfl, rfl⟩
end Go.Proofs.YtgdmfledhhoedaaGreatDoor.R
namespace Go.Burg
open Go Go.RowKit
def z2b (n : Nat) : ByteArray := ⟨#[0, 0, 0, 0, 0, 0, 0, UInt8.ofNat n]⟩
end Go.Burg
namespace Go.Proofs.YtgdmfledhhoedaaGreatDoor.T
set_option maxRecDepth 8000
open Go.ChangeShapes Go.WideShapes Go.ChangeAt Go.RowKit Go.Burg
theorem zget (k : Nat) (h : k < 8) : (#[.int .u8 0, .int .u8 0, .int .u8 0, .int .u8 0, .int .u8 0, .int .u8 0, .int .u8 0, .int .u8 0] : Array Value)[k]? = some (.int .u8 0) := by
 rcases (by omega : k = 0 \/ k = 1 \/ k = 2 \/ k = 3 \/ k = 4 \/ k = 5 \/ k = 6 \/ k = 7) with rfl | rfl | rfl | rfl | rfl | rfl | rfl | rfl <;> rfl
theorem zset (k : Nat) (n : Int) (h : k < 7) : (#[.int .u8 0, .int .u8 0, .int .u8 0, .int .u8 0, .int .u8 0, .int .u8 0, .int .u8 0, .int .u8 n] : Array Value).setIfInBounds k (.int .u8 0) = #[.int .u8 0, .int .u8 0, .int .u8 0, .int .u8 0, .int .u8 0, .int .u8 0, .int .u8 0, .int .u8 n] := by
 rcases (by omega : k = 0 \/ k = 1 \/ k = 2 \/ k = 3 \/ k = 4 \/ k = 5 \/ k = 6) with rfl | rfl | rfl | rfl | rfl | rfl | rfl <;> rfl
variable {n : Nat}
theorem ois_at (w : World) (h1 : 1 <= n) (h2 : n <= 16) : Calls Tryz.prog 82 #[.agg #[.int .i64 n]] w fun e w' => e = .returned (.bool true) /\ Below w.heap.size w w' := by
 have d1 : decide ((n : Int) >= 1) = true := by simp; omega
 have d2 : decide ((n : Int) <= 16) = true := by simp; omega
 go_enter Tryz.func82, Tryz.ntmps82
 go_wp2
 go_ret
 exact ⟨by first | rfl | simp [*], (Below.refl _ _).alloc (Nat.le_refl _) _⟩
theorem oprefix_at (w : World) (h1 : 1 <= n) (h2 : n <= 16) : Calls Tryz.prog 83 #[.agg #[.int .i64 n]] w fun e w' => e = .returned (.string (z2b n)) /\ Below w.heap.size w w' := by
 have hn := z0d (o' := (.cells #[.int .u8 0, .int .u8 0, .int .u8 0, .int .u8 0, .int .u8 0, .int .u8 0, .int .u8 0, .int .u8 0] 216 (0, 0))) (z0a w (.cells #[.int .i64 n] 176 (0, 0)))
 have ha := z0a (w.alloc (.cells #[.int .i64 n] 176 (0, 0))) (.cells #[.int .u8 0, .int .u8 0, .int .u8 0, .int .u8 0, .int .u8 0, .int .u8 0, .int .u8 0, .int .u8 0] 216 (0, 0))
 have hs1 : (w.alloc (.cells #[.int .i64 n] 176 (0, 0))).heap.size = w.heap.size + 1 := by simp
 rw [hs1] at ha
 have hB : Below w.heap.size w ((w.alloc (.cells #[.int .i64 n] 176 (0, 0))).alloc (.cells #[.int .u8 0, .int .u8 0, .int .u8 0, .int .u8 0, .int .u8 0, .int .u8 0, .int .u8 0, .int .u8 0] 216 (0, 0))) := ((Below.refl _ _).alloc (Nat.le_refl _) _).alloc (by simp) _
 generalize hW : (w.alloc (.cells #[.int .i64 n] 176 (0, 0))).alloc (.cells #[.int .u8 0, .int .u8 0, .int .u8 0, .int .u8 0, .int .u8 0, .int .u8 0, .int .u8 0, .int .u8 0] 216 (0, 0)) = W at *
 generalize hob : w.heap.size = ob at *
 have HN := hid hn
 have HA := hid ha
 have HB := hid hB
 have HE := hid (And.intro hW hob)
 clear hn ha hs1 hB hW hob
 go_enter Tryz.func83, Tryz.ntmps83
 go_wp2_with fail
 try rw [HE.out.1, HE.out.2]
 go_loopw [5] (fun iv wr => ∃ k : Nat, k <= 8 /\ iv = .int .i64 k /\ wr.heap[ob]? = some (.cells #[.int .i64 n] 176 (0, 0)) /\ wr.heap[ob + 1]? = some (.cells #[.int .u8 0, .int .u8 0, .int .u8 0, .int .u8 0, .int .u8 0, .int .u8 0, .int .u8 0, .int .u8 (if k = 8 then (n : Int) else 0)] 216 (0, 0)) /\ Below ob w wr) (fun iv _ => 8 - (intOf iv).toNat)
 case atStart => exact ⟨0, by omega, rfl, HN.out, HA.out, HB.out⟩
 case round =>
  obtain ⟨k, hk, rfl, hn, ha, hB⟩ := hrel
  by_cases hlt : k < 7
  ·rw [if_neg (by omega)] at ha
   have b0 := cell_of hn 0
   have HA1 := hid ha
   have HN1 := hid hn
   have HB1 := hid hB
   have hpw : (256 : Int) <= 2 ^ (8 * (7 - (k : Int))).toNat := by
    have e : (8 * (7 - (k : Int))).toNat = 8 + (48 - 8 * k) := by omega
    rw [e, Int.pow_add]
    have : (0 : Int) < 2 ^ (48 - 8 * k) := Int.pow_pos (by omega)
    omega
   have hq : (n : Int) / 2 ^ (8 * (7 - (k : Int))).toNat = 0 := Int.ediv_eq_zero_of_lt (by omega) (by omega)
   have f1 := z0e ha
   have a1 : wr.cell? ⟨ob + 1, k, none⟩ = some (.int .u8 0) := (cell_of ha k).trans (zget k (by omega))
   have HST := hid (heap_set (i := k) (v := .int .u8 0) ha)
   clear hn ha hB hpw
   go_wp2_with fail
   have hMs := Mod.setCell (S := (· = ob + 1)) (p := ⟨ob + 1, k, none⟩) (Mod.refl _ wr) (.inl rfl) (.int .u8 0)
   go_roundw
   case rel => exact ⟨k + 1, by omega, by go_num, (hMs.block _ (lt_of_block HN1.out) (by omega)).trans HN1.out, by rw [if_neg (by omega)]; rw [zset k 0 (by omega)] at HST; exact HST.out, HB1.out.setCell (by simp) _⟩
   case measure => simp [intOf]; omega
  ·by_cases h7 : k = 7
   ·subst h7
    rw [if_neg (by omega)] at ha
    have b0 := cell_of hn 0
    have HN1 := hid hn
    have HB1 := hid hB
    have hq : (n : Int) / 2 ^ 0 = n := by simp
    have hc : IntKind.u8.wrap (n : Int) = n := by rw [IntKind.wrap_u8]; omega
    have f1 := z0e ha
    have a1 : wr.cell? ⟨ob + 1, 7, none⟩ = some (.int .u8 0) := (cell_of ha 7).trans (zget 7 (by omega))
    have HST := hid (heap_set (i := 7) (v := .int .u8 n) ha)
    clear hn ha hB
    go_wp2_with fail
    have hMs := Mod.setCell (S := (· = ob + 1)) (p := ⟨ob + 1, 7, none⟩) (Mod.refl _ wr) (.inl rfl) (.int .u8 n)
    go_roundw
    case rel => exact ⟨8, by omega, by go_num, (hMs.block _ (lt_of_block HN1.out) (by omega)).trans HN1.out, HST.out, HB1.out.setCell (by simp) _⟩
    case measure => simp [intOf]
   ·obtain rfl : k = 8 := by omega
    rw [if_pos rfl] at ha
    have HA1 := hid ha
    have HB1 := hid hB
    have hcv : (convert 23 9 (.slice (some ⟨ob + 1, 0, none⟩) 8 8)).run Tryz.prog wr = .ok (.string (z2b n)) wr := by
     have := run_convert_bytes_back (P := Tryz.prog) wr 23 9 5 ⟨ob + 1, 0, none⟩ 8 [0, 0, 0, 0, 0, 0, 0, UInt8.ofNat n] Tryz.underlying23 (by kernel_rfl) Tryz.underlying9 (fun j hj => by
      have e8 : (n : Int) % 256 = n := by omega
      have hz := cell_of ha j
      rcases (by simpa using hj : j < 8) with hj
      rcases (by omega : j = 0 \/ j = 1 \/ j = 2 \/ j = 3 \/ j = 4 \/ j = 5 \/ j = 6 \/ j = 7) with rfl | rfl | rfl | rfl | rfl | rfl | rfl | rfl <;> simpa [e8, Addr.add] using hz)
     exact this
    go_wp2_with fail
    go_ret
    exact ⟨rfl, hB⟩
theorem Prefix_at (w : World) (h1 : 1 <= n) (h2 : n <= 16) : Calls Tryz.prog 43 #[.int .i64 n] w fun e w' => e = .returned (.tuple #[.string (z2b n), .int .i64 0]) /\ Below w.heap.size w w' := by
 have hn := z0a w (.cells #[.int .i64 n] 176 (0, 0))
 have hB : Below w.heap.size w (w.alloc (.cells #[.int .i64 n] 176 (0, 0))) := (Below.refl _ _).alloc (Nat.le_refl _) _
 have HN := hid hn
 have HB := hid hB
 have HI := hid (ois_at (w.alloc (.cells #[.int .i64 n] 176 (0, 0))) h1 h2)
 have n0 := cell_of hn 0
 have HP := hid (fun w1 => oprefix_at w1 h1 h2)
 have hsz := hB.size
 clear hn hB
 go_enter Tryz.func43, Tryz.ntmps43
 go_wp2_with (first | (go_at_call 82; refine HI.out.mono ?_; rintro e w2 ⟨rfl, hb2⟩; go_loud (have n0 := cell_of (z0b HN.out hb2 (lt_of_block HN.out)) 0; have HB2 := hid (HB.out.trans (hb2.mono hsz)); clear hb2)) | (go_at_call 83; refine (HP.out _).mono ?_; rintro e w3 ⟨rfl, hb3⟩))
 go_ret2
 exact ⟨rfl, HB2.out.trans (hb3.mono HB2.out.size)⟩
end Go.Proofs.YtgdmfledhhoedaaGreatDoor.T
namespace Go.Burg
open Go Go.RowKit
def z1m (n : Nat) (E : Ents) : Ents := E.map fun e => (z2b n ++ e.1, e.2)
def z0v (lt : Nat -> Ten) (Es : Nat -> Ents) : Ents := (tens lt 16).flatMap fun n => z1m n (Es n)
end Go.Burg
namespace Go.Proofs.YtgdmfledhhoedaaGreatDoor.T
set_option maxRecDepth 8000
open Go.ChangeShapes Go.WideShapes Go.ChangeAt Go.RowKit Go.Burg
open Go.Burg.Lk Go.Shelf
attribute [local go_sem] Oper.semAt_some
variable {kb km sb sg t x : Nat}
theorem tabAll_at (w : World) :
 Calls Tryz.prog 10 #[.pointer (some ⟨x, 0, none⟩)] w fun e w' => e = .returned (.func (.func 41) #[] #[.pointer (some ⟨w.heap.size, 0, none⟩)]) /\ w' = w.alloc (.cells #[.pointer (some ⟨x, 0, none⟩)] 24 (0, 0)) := by
 have hmf := makeF Tryz.prog
 go_enter Tryz.func10, Tryz.ntmps10
 go_wp2_with fail
 go_ret
 exact ⟨rfl, rfl⟩
structure TAllC (X : World -> Prop) (wz : World) (lp : List (Cel Nd)) (Zs : Nat -> Nat -> Prop) (lt : Nat -> Ten) (x t sb sg kb km : Nat) (W : World) : Prop where
 x : TabAt 87 W x t lt
 t : ∃ l' L' tk', TreeAt W t sb sg kb km l' L' tk' /\ ∀ n, n ∈ tens lt 16 -> ∀ y, Zs n y -> l'[y]? = lp[y]?
 r : ∀ (k : Nat) (cs : Array Value) (fr : Nat × Nat), wz.heap[k]? = some (.cells cs 36 fr) -> W.heap[k]? = some (.cells cs 36 fr)
 g : X W
variable {lp : List (Cel Nd)} {lt : Nat -> Ten} {wz : World}
theorem TAllC.one {X : World -> Prop} {Zs : Nat -> Nat -> Prop} {W : World} (h : TAllC X wz lp Zs lt x t sb sg kb km W) {n : Nat} (hn : n ∈ tens lt 16) : AllC X wz lp (Zs n) t sb sg kb km W :=
 ⟨by obtain ⟨l', L', tk', a, b⟩ := h.t; exact ⟨l', L', tk', a, b n hn⟩, h.r, h.g⟩
set_option maxRecDepth 100000 in
set_option maxHeartbeats 8000000 in
theorem tall_own {n₀ : Nat} {P : List (Cel PNd)} (hRel : Rel wz lp P) (Mine : World -> Nat -> Prop) {X : World -> Prop} (hMine : MineX n₀ Mine X)
 {an : Nat -> Nat} {qs : Nat -> PNd} {Zs : Nat -> Nat -> Prop} {Rs : Nat -> List (Int × Int)} {Es : Nat -> Ents} (hs : ∀ n, n ∈ tens lt 16 -> (lt n).slot = (an n : Int)) (hP : ∀ n, n ∈ tens lt 16 -> Post P (an n) (lt n).agen (Zs n) (Rs n) (Es n)) (hq : ∀ n, n ∈ tens lt 16 -> z0k P (an n) (lt n).agen (an n) (qs n) /\ (qs n).planted = true)
 (hc : ∀ n, n ∈ tens lt 16 -> ∀ e, e ∈ Es n -> e.1.size <= 1000)
 (A : Nat) (w0 : World) (hA : w0.heap[A]? = some (.cells #[.pointer (some ⟨x, 0, none⟩)] 24 (0, 0))) (hn : n₀ <= A) (hm1 : ¬ Mine w0 A) (hx0 : X w0) :
 SeqOwnC (fun _ W => TAllC X wz lp Zs lt x t sb sg kb km W) Mine Tryz.prog 41 #[.pointer (some ⟨A, 0, none⟩)] encE n₀ (fun xs => xs = z0v lt Es) (fun pre => pre <+: z0v lt Es) w0 := by
 intro LL J Jx W hW hml hJ hJx hC hY h0
 have hb1 := z0b hA hW (lt_of_block hA)
 have hlA := lt_of_block hA
 have hm1W := hMine.priv hx0 (by omega) hm1 hW
 have hxW := (hC _ _ h0).g
 have HA := hid (z0d (o' := (.cells #[.func (.yield LL) #[] #[]] 121 (0, 0))) hb1)
 have HX := hid (z0a W (.cells #[.func (.yield LL) #[] #[]] 121 (0, 0)))
 have hBW : Below W.heap.size W (W.alloc (.cells #[.func (.yield LL) #[] #[]] 121 (0, 0))) := (Below.refl _ _).alloc (Nat.le_refl _) _
 have hsz := hW.size
 have hTB := (hC _ _ h0).x.keep hBW
 have HY := hid hY
 have HC := hid hC
 have HP := hid hP
 have HQ := hid hq
 have HS := hid hs
 have HCS := hid hc
 have HREL := hid hRel
 have HJ0 := hid (own_below hJ h0 hBW)
 have HM : Hid (¬ Mine (W.alloc (.cells #[.func (.yield LL) #[] #[]] 121 (0, 0))) A /\ ¬ Mine (W.alloc (.cells #[.func (.yield LL) #[] #[]] 121 (0, 0))) W.heap.size) := hid ⟨hMine.priv hxW (by omega) hm1W hBW, hMine.priv hxW (by omega) (fun h => absurd (hml _ h) (Nat.lt_irrefl _)) hBW⟩
 have HXB := hid (hMine.xb hxW (by omega) hBW)
 clear hA hW hb1 hY h0 hm1 hm1W hC hml hP hRel hq hs hc hx0 hxW
 refine (callsIn_wide (n := 8)).1 ?_
 refine callsIn_of_wp_marks Tryz.func41 rfl trivial ?_ rfl
 simp only [Tryz.ntmps41, List.size_toArray, List.length_cons, List.length_nil, Nat.reduceAdd, Nat.reduceSub, Array.replicate_succ, Array.replicate_zero, List.push_toArray, List.append_toArray, List.nil_append, List.cons_append]
 have a0 := cell_of HA.out 0
 have HTN := hid (tenants_at _ hTB)
 gi_wp2_with fail
 refine ⟨trivial, ?_⟩
 refine ((callsIn_wide (n := 7)).2 HTN.out).mono ?_
 rintro e w1 ⟨sv, rfl, hO, hb⟩
 obtain ⟨sa, sc, rfl⟩ : ∃ a c, sv = .slice a (tens lt 16).length c := by
  obtain ⟨_, ⟨e, h⟩ | ⟨g, cp, cur, e, _⟩⟩ := hO
  ·rw [h]; exact ⟨_, _, e⟩
  ·exact ⟨_, _, e⟩
 obtain ⟨G, cs, fr, hrow, hget⟩ : ∃ (G : Nat) (cs : Array Value) (fr : Nat × Nat), ((tens lt 16).length ≠ 0 -> sa = some ⟨G, 0, none⟩ /\ w1.heap[G]? = some (.cells cs 3 fr) /\ W.heap.size + 1 <= G) /\ ((tens lt 16).length ≠ 0 -> ∀ j n, (tens lt 16)[j]? = some n -> cs[j]? = some (Value.int .i64 (n : Nat))) := by
  by_cases hz : (tens lt 16).length = 0
  ·exact ⟨0, #[], (0, 0), fun h => absurd hz h, fun h => absurd hz h⟩
  ·obtain ⟨g1, e1, _, hcl⟩ := O.z0x (z2f hO (Nat.zero_le _)) (by omega)
   subst e1
   have hlo := World.ownsRow.lt hO g1 rfl
   obtain ⟨_, ⟨e, _⟩ | ⟨g, cap, cur, e, _, hg, _⟩⟩ := hO
   ·cases e
   ·cases e
    refine ⟨g1, cur, _, fun _ => ⟨rfl, hg, by have := hlo.1; simp at this; omega⟩, fun _ j n hj => (cell_of hg _).symm.trans (hcl _ _ (natsL_get hj))⟩
 have hbW : Below (W.alloc (.cells #[.func (.yield LL) #[] #[]] 121 (0, 0))).heap.size (W.alloc (.cells #[.func (.yield LL) #[] #[]] 121 (0, 0))) w1 := hb
 have hJ1 := own_below hJ HJ0.out hb
 have c1 := (hb.block _ (lt_of_block HA.out)).trans HA.out
 have cx := (hb.block _ (lt_of_block HX.out)).trans HX.out
 have hn1 : n₀ <= (W.alloc (.cells #[.func (.yield LL) #[] #[]] 121 (0, 0))).heap.size := by simp; omega
 have hm1 : ¬ Mine w1 A /\ ¬ Mine w1 W.heap.size := ⟨hMine.priv HXB.out hn1 HM.out.1 hb, hMine.priv HXB.out hn1 HM.out.2 hb⟩
 have hmg : (tens lt 16).length ≠ 0 -> ¬ Mine w1 G := fun hz hm => by
  have h1 := hMine.lt HXB.out (hMine.grow HXB.out hn1 (z1e hb) (fun r e => by cases e) hm)
  have h2 := (hrow hz).2.2
  simp at h1
  omega
 have hlt16 : (tens lt 16).length <= 16 := tens_len lt 16
 generalize hU : W.heap.size = U at *
 have HSL := hid hrow
 have HGT := hid hget
 have HJ1 := hid hJ1
 have HB1 := hid (And.intro c1 cx)
 have HM1 := hid (And.intro hm1 hmg)
 have HT16 := hid hlt16
 have hU1 : U < w1.heap.size := lt_of_block cx
 clear hrow hget hJ1 c1 cx hm1 hmg hbW hb hO HTN a0 HM HJ0 HX HXB HA hTB hBW hn1 hlt16
 have hmem : ∀ (j n : Nat), (tens lt 16)[j]? = some n -> n ∈ tens lt 16 /\ 1 <= n /\ n <= 16 := fun j n h => by
  have hm := List.mem_of_getElem? h
  refine ⟨hm, ?_⟩
  unfold tens at hm
  obtain ⟨h1, _⟩ := List.mem_filter.1 hm
  obtain ⟨k, h2, h3⟩ := List.mem_map.1 h1
  have := List.mem_range.1 h2
  omega
 have HMEM := hid hmem
 clear hmem
 gi_wp2_with fail
 generalize hTT : tens lt 16 = TT at *
 refine wpIn_loop (fun a wr => ∃ (j : Nat) (ds : List Deferred) (u4 u5 u6 u7 u8 u13 u14 u15 u16 u17 u18 u19 u20 u21 u22 u23 u24 u25 u26 u27 u28 u29 u30 u31 u32 u33 u36 u37 u38 u39 u40 u41 u42 u43 : Value), (j <= TT.length /\ J ((TT.take j).flatMap fun n => z1m n (Es n)) wr /\ (wr.heap[A]? = some (.cells #[.pointer (some ⟨x, 0, none⟩)] 24 (0, 0)) /\ wr.heap[U]? = some (.cells #[.func (.yield LL) #[] #[]] 121 (0, 0)) /\ (TT.length ≠ 0 -> wr.heap[G]? = some (.cells cs 3 fr))) /\ (¬ Mine wr A /\ ¬ Mine wr U /\ (TT.length ≠ 0 -> ¬ Mine wr G)) /\ Marks (U + 1) ds wr) /\ a = { tmps := #[.func (.yield LL) #[] #[], .pointer (some ⟨A, 0, none⟩), .pointer (some ⟨U, 0, none⟩), undef, u4, u5, u6, u7, u8, .pointer (some ⟨x, 0, none⟩), .slice sa TT.length sc, .int .i64 TT.length, .int .i64 j, u13, u14, u15, u16, u17, u18, u19, u20, u21, u22, u23, u24, u25, u26, u27, u28, u29, u30, u31, u32, u33, undef, undef, u36, u37, u38, u39, u40, u41, u42, u43], defers := ds }) (fun a _ => TT.length - (intOf (a.tmps.getD 12 undef)).toNat) ?atStart ?round
 case atStart =>
  exact ⟨0, [], _, _, _, _, _, _, _, _, _, _, _, _, _, _, _, _, _, _, _, _, _, _, _, _, _, _, _, _, _, _, _, _, _, _, ⟨Nat.zero_le _, HJ1.out, ⟨HB1.out.1, HB1.out.2, fun h => (HSL.out h).2.1⟩, ⟨HM1.out.1.1, HM1.out.1.2, HM1.out.2⟩, trivial⟩, rfl⟩
 case round =>
  clear HJ1 HB1 HM1
  rintro _ wr ⟨j, ds, u4, u5, u6, u7, u8, u13, u14, u15, u16, u17, u18, u19, u20, u21, u22, u23, u24, u25, u26, u27, u28, u29, u30, u31, u32, u33, u36, u37, u38, u39, u40, u41, u42, u43, ⟨hj, hJs, hbl, hmm, hmk⟩, rfl⟩
  have HMK := hid hmk
  have HJS := hid hJs
  have HMM := hid hmm
  have HBL := hid hbl
  clear hJs hmm hmk hbl
  by_cases hlt : j < TT.length
  ·have hz : TT.length ≠ 0 := by omega
   obtain ⟨n, hjn⟩ : ∃ n, TT[j]? = some n := ⟨_, List.getElem?_eq_getElem hlt⟩
   obtain ⟨hnm, hn1, hn16⟩ := HMEM.out j n hjn
   have HGN := hid (HSL.out hz).2.2
   have hsa := (HSL.out hz).1
   subst hsa
   have z0 := (cell_of (HBL.out.2.2 hz) j).trans (HGT.out hz j n hjn)
   have HPX := hid (Prefix_at (n := n) wr hn1 hn16)
   have HJN := hid hjn
   clear hjn hz
   gi_wp2_with fail
   refine ⟨trivial, ?_⟩
   refine ((callsIn_wide (n := 7)).2 HPX.out).mono ?_
   rintro e w2 ⟨rfl, hb2⟩
   gi_wp2_with fail
   have hV := z0a w2 (.cells #[.string (z2b n)] 9 (0, 0))
   have hb5 : Below wr.heap.size wr (w2.alloc (.cells #[.string (z2b n)] 9 (0, 0))) := hb2.alloc hb2.size _
   have hVr := hb2.size
   generalize hw5 : w2.alloc (.cells #[.string (z2b n)] 9 (0, 0)) = W5 at *
   generalize w2.heap.size = V at *
   have hJ5 := own_below hJ HJS.out hb5
   have hTB := (HC.out _ _ hJ5).x
   have hxr := (HC.out _ _ HJS.out).g
   have HX5 := hid (HC.out _ _ hJ5).g
   have hUw := lt_of_block HBL.out.2.1
   have hAw := lt_of_block HBL.out.1
   have e5 : ∀ {k : Nat} {o : Obj}, wr.heap[k]? = some o -> W5.heap[k]? = some o := fun h => (hb5.block _ (lt_of_block h)).trans h
   have hBL5 := hid (And.intro (e5 HBL.out.1) (And.intro (e5 HBL.out.2.1) (And.intro (e5 (HBL.out.2.2 (by omega))) hV)))
   have hn0r : n₀ <= wr.heap.size := by omega
   have hnm5 : ∀ k, wr.heap.size <= k -> ¬ Mine W5 k := fun k hk hm => by
    have h1 := hMine.lt hxr (hMine.grow hxr hn0r (z1e hb5) (fun r e => by cases e) hm)
    omega
   have hMM5 := hid (And.intro (hMine.priv hxr hn0r HMM.out.1 hb5) (And.intro (hMine.priv hxr hn0r HMM.out.2.1 hb5) (And.intro (hMine.priv hxr hn0r (HMM.out.2.2 (by omega)) hb5) (hnm5 V hVr))))
   have HMK5 := hid (HMK.out.below hb5)
   have hV5 := lt_of_block hV
   have HTB := hid hTB
   have HJ5 := hid hJ5
   have HPB := hid hBL5.out.1
   have hn17 : n < 17 := by omega
   have HSN := hid (HS.out n hnm)
   clear hxr hw5 hV hb5 hb2 HMK HMM HBL HJS e5 hJ5 hTB hnm5 HPX z0
   refine rgn_seqI (fok_wide _) (by kernel_rfl) 13 (Turn 12 (fun w1 => w1 = W5.drew) (fun w1 => w1 = (W5.drew.alloc (.cells #[.pointer (some ⟨t, 0, none⟩)] 25 (0, 0))).alloc (.cells #[.int .i64 (an n), .int .u32 (lt n).agen] 36 (0, 0)))) (by kernel_rfl) (by kernel_rfl) (by kernel_rfl) (Turn.start rfl) ?_
   dsimp only [List.take]
   iterate 12
    refine Seq.calm (a' := ?_) (by decide) ?_ ?_ ?_
    rotate_left
    ·intro w1 hw1
     have hbw : Below W5.heap.size W5 w1 := hw1.elim (fun e => by rw [e]; exact (Below.refl _ _).drew) (fun e => by rw [e]; exact ((Below.refl _ _).drew.alloc (Nat.le_refl _) _).alloc (by simp) _)
     have a0 := cell_of ((hbw.block A (lt_of_block HPB.out)).trans HPB.out) 0
     obtain ⟨z0, zf⟩ := (HTB.out.keep hbw).head
     obtain ⟨c0, c1, c2, c3⟩ := (HTB.out.keep hbw).cell hn17
     rw [HSN.out] at c1
     clear c0 c3 hbw hw1
     go_wp2_with (fail)
     refine ⟨?_, id, id⟩; exact rfl
    ·kernel_rfl
   refine Seq.turn (a' := ?_) ?_ ?_ ?_
   rotate_left
   ·intro w1 hw1
    subst hw1; go_wp2_with (go_at_call 44; refine (pAll_at _ _ _).mono ?_; rintro e w2 ⟨rfl, rfl⟩); refine ⟨?_, rfl⟩; exact rfl
   ·kernel_rfl
   iterate 0
    refine Seq.calm (a' := ?_) (by decide) ?_ ?_ ?_
    rotate_left
    ·intro w1 hw1
     have hbw : Below W5.heap.size W5 w1 := hw1.elim (fun e => by rw [e]; exact (Below.refl _ _).drew) (fun e => by rw [e]; exact ((Below.refl _ _).drew.alloc (Nat.le_refl _) _).alloc (by simp) _)
     have a0 := cell_of ((hbw.block A (lt_of_block HPB.out)).trans HPB.out) 0
     obtain ⟨z0, zf⟩ := (HTB.out.keep hbw).head
     obtain ⟨c0, c1, c2, c3⟩ := (HTB.out.keep hbw).cell hn17
     rw [HSN.out] at c1
     clear c0 c3 hbw hw1
     go_wp2_with (fail)
     refine ⟨?_, id, id⟩; exact rfl
    ·kernel_rfl
   refine SeqI.nil ?_
   intro D w1 hD hI
   replace hI := hI.done (hD 12 (by omega))
   clear hD
   dsimp only [List.drop]
   subst hI
   gi_wp2_with fail
   obtain ⟨Wa, hWa⟩ : ∃ Wa, Wa = (W5.drew.alloc (.cells #[.pointer (some ⟨t, 0, none⟩)] 25 (0, 0))).alloc (.cells #[.int .i64 (an n), .int .u32 (lt n).agen] 36 (0, 0)) := ⟨_, rfl⟩
   have hs0 : W5.drew.heap.size = W5.heap.size := by rw [drew_heap]
   have hs1 : (W5.drew.alloc (.cells #[.pointer (some ⟨t, 0, none⟩)] 25 (0, 0))).heap.size = W5.heap.size + 1 := by simp
   have hbA : Below W5.heap.size W5 Wa := by rw [hWa]; exact ((Below.refl _ _).drew.alloc (Nat.le_refl _) _).alloc (by simp) _
   have hp : Wa.heap[W5.heap.size]? = some (.cells #[.pointer (some ⟨t, 0, none⟩)] 25 (0, 0)) := by rw [hWa, <- hs0]; exact z0d (z0a _ _)
   have hq : Wa.heap[W5.heap.size + 1]? = some (.cells #[.int .i64 (an n), .int .u32 (lt n).agen] 36 (0, 0)) := by rw [hWa, <- hs1]; exact z0a _ _
   rw [<- hWa]
   have hsa : Wa.heap.size = W5.heap.size + 2 := by rw [hWa]; simp
   clear hs0 hs1 hWa
   have hn5 : n₀ <= W5.heap.size := by omega
   have hnm5 : ∀ k, W5.heap.size <= k -> ¬ Mine Wa k := fun k hk hm => by
    have h1 := hMine.lt HX5.out (hMine.grow HX5.out hn5 (z1e hbA) (fun r e => by cases e) hm)
    omega
   have HSEQ := hid (all_own (sb := sb) (sg := sg) (kb := kb) (km := km) HREL.out Mine hMine (HP.out n hnm) (HQ.out n hnm).1 (HQ.out n hnm).2 W5.heap.size Wa hp hq hn5 (hnm5 _ (Nat.le_refl _)) (hnm5 _ (by omega)) (hMine.xb HX5.out hn5 hbA))
   have e5 : ∀ {k : Nat} {o : Obj}, W5.heap[k]? = some o -> Wa.heap[k]? = some o := fun h => (hbA.block _ (lt_of_block h)).trans h
   have hBA := hid (And.intro (e5 hBL5.out.1) (And.intro (e5 hBL5.out.2.1) (And.intro (e5 hBL5.out.2.2.1) (e5 hBL5.out.2.2.2))))
   have hMA := hid (And.intro (hMine.priv HX5.out hn5 hMM5.out.1 hbA) (And.intro (hMine.priv HX5.out hn5 hMM5.out.2.1 hbA) (And.intro (hMine.priv HX5.out hn5 hMM5.out.2.2.1 hbA) (hMine.priv HX5.out hn5 hMM5.out.2.2.2 hbA))))
   have HMKa := hid (HMK5.out.below hbA)
   have HJa := hid (own_below hJ HJ5.out hbA)
   have hxa := hMine.xb HX5.out hn5 hbA
   have hsplit : z0v lt Es = ((TT.take j).flatMap fun n => z1m n (Es n)) ++ (z1m n (Es n) ++ (TT.drop (j + 1)).flatMap fun n => z1m n (Es n)) := by
    obtain ⟨h1, h2⟩ := List.getElem?_eq_some_iff.1 HJN.out
    unfold z0v
    rw [hTT]
    conv => lhs; rw [<- List.take_append_drop j TT, List.drop_eq_getElem_cons h1, h2]
    rw [List.flatMap_append, List.flatMap_cons]
   have hsucc : (TT.take (j + 1)).flatMap (fun n => z1m n (Es n)) = ((TT.take j).flatMap fun n => z1m n (Es n)) ++ z1m n (Es n) := by
    rw [List.take_add_one, HJN.out, List.flatMap_append]
    simp
   generalize ((TT.take j).flatMap fun n => z1m n (Es n)) = pf at *
   generalize W5.heap.size = H at *
   have hUVH : U < V /\ V < H /\ A < H := ⟨by omega, by omega, by omega⟩
   have hGH := lt_of_block hBA.out.2.2.1
   have hWaU : U + 1 <= Wa.heap.size := by omega
   have hI : OwnFrom Wa.heap.size (fun (pre : Ents) W => J (pf ++ z1m n pre) W /\ (W.heap[A]? = some (.cells #[.pointer (some ⟨x, 0, none⟩)] 24 (0, 0)) /\ W.heap[U]? = some (.cells #[.func (.yield LL) #[] #[]] 121 (0, 0)) /\ W.heap[G]? = some (.cells cs 3 fr) /\ W.heap[V]? = some (.cells #[.string (z2b n)] 9 (0, 0))) /\ (¬ Mine W A /\ ¬ Mine W U /\ ¬ Mine W G /\ ¬ Mine W V) /\ Marks (U + 1) ds W) := by
    intro s A' C row hs hg hr
    have e : ∀ (k : Nat), k < Wa.heap.size -> k < A'.heap.size -> C.heap[k]? = A'.heap[k]? := fun k hk hA => hg.block k hA (fun e => by have := (hr k e.symm).1; omega)
    obtain ⟨h1, ⟨c1, c2, c3, c4⟩, ⟨m1, m2, m3, m4⟩, h4⟩ := hs
    have hnA : n₀ <= A'.heap.size := by have := lt_of_block c1; omega
    have gm : ∀ k, Mine C k -> Mine A' k := fun k => hMine.grow (HC.out _ _ h1).g hnA hg (fun r e => ⟨by have := (hr r e).1; omega, (hr r e).2⟩)
    exact ⟨hJ _ A' C row h1 hg (fun r e => ⟨by have := (hr r e).1; omega, (hr r e).2⟩), ⟨(e _ (by omega) (lt_of_block c1)).trans c1, (e _ (by omega) (lt_of_block c2)).trans c2, (e _ hGH (lt_of_block c3)).trans c3, (e _ (by omega) (lt_of_block c4)).trans c4⟩, ⟨fun h => m1 (gm _ h), fun h => m2 (gm _ h), fun h => m3 (gm _ h), fun h => m4 (gm _ h)⟩, h4.grown hg (fun r e => (hr r e).1) (fun d hd D e => HMKa.out.lt d hd D e)⟩
   have hX : OwnFrom Wa.heap.size (fun (pre : Ents) W => Jx (pf ++ z1m n pre) W /\ Marks (U + 1) ds W) := by
    intro s A' C row hs hg hr
    exact ⟨hJx _ A' C row hs.1 hg (fun r e => ⟨by have := (hr r e).1; omega, (hr r e).2⟩), hs.2.grown hg (fun r e => (hr r e).1) (fun d hd D e => HMKa.out.lt d hd D e)⟩
   have hCj : ∀ (pre : Ents) W1, (J (pf ++ z1m n pre) W1 /\ (W1.heap[A]? = some (.cells #[.pointer (some ⟨x, 0, none⟩)] 24 (0, 0)) /\ W1.heap[U]? = some (.cells #[.func (.yield LL) #[] #[]] 121 (0, 0)) /\ W1.heap[G]? = some (.cells cs 3 fr) /\ W1.heap[V]? = some (.cells #[.string (z2b n)] 9 (0, 0))) /\ (¬ Mine W1 A /\ ¬ Mine W1 U /\ ¬ Mine W1 G /\ ¬ Mine W1 V) /\ Marks (U + 1) ds W1) -> AllC X wz lp (Zs n) t sb sg kb km W1 := fun pre W1 h => (HC.out _ _ h.1).one (hTT ▸ hnm)
   have h0 : J (pf ++ z1m n []) Wa := by unfold z1m; rw [List.map_nil, List.append_nil]; exact HJa.out
   have HI := hid hI
   have HX := hid hX
   have HCJ := hid hCj
   have H0 := hid (And.intro h0 (And.intro hBA.out (And.intro hMA.out HMKa.out)))
   have HSU := hid hsucc
   have HSP := hid hsplit
   have HML : Hid (∀ i, Mine Wa i -> i < Wa.heap.size) := hid (fun _ => hMine.lt hxa)
   clear hxa HX5 hI hX hCj h0 hBA hMA HJa hp hq hbA hnm5 hsucc hsplit e5 hBL5 hMM5 HMK5 HTB HJ5 HPB HSN
   refine range_ownC (n := 8) (by decide) (gf := 84) (lb := #[.pointer (some ⟨H, 0, none⟩), .pointer (some ⟨(H + 1), 0, none⟩)]) rfl (enters_of Tryz.func84 (by kernel_rfl) rfl) Mine hMine (fun _ W => AllC X wz lp (Zs n) t sb sg kb km W) (fun _ _ h => h.x) HSEQ.out (by omega) HML.out (Below.refl _ _) (fun _ => rfl)
    (fun (pre : Ents) W => J (pf ++ z1m n pre) W /\ (W.heap[A]? = some (.cells #[.pointer (some ⟨x, 0, none⟩)] 24 (0, 0)) /\ W.heap[U]? = some (.cells #[.func (.yield LL) #[] #[]] 121 (0, 0)) /\ W.heap[G]? = some (.cells cs 3 fr) /\ W.heap[V]? = some (.cells #[.string (z2b n)] 9 (0, 0))) /\ (¬ Mine W A /\ ¬ Mine W U /\ ¬ Mine W G /\ ¬ Mine W V) /\ Marks (U + 1) ds W) (fun (pre : Ents) W => Jx (pf ++ z1m n pre) W /\ Marks (U + 1) ds W) HI.out HX.out HCJ.out H0.out
    (fun (e : ByteArray × ByteArray) a' _ => a' = { tmps := #[.func (.yield LL) #[] #[], .pointer (some ⟨A, 0, none⟩), .pointer (some ⟨U, 0, none⟩), undef, .int .i64 n, .pointer (some ⟨V, 0, none⟩), .int .i64 0, .string e.1, .string e.2, .pointer (some ⟨x, 0, none⟩), .slice (some ⟨G, 0, none⟩) TT.length sc, .int .i64 TT.length, .int .i64 j, .bool true, .pointer (some ⟨G, j, none⟩), .int .i64 n, .tuple #[.string (z2b n), .int .i64 0], .int .i64 n, .tuple #[.string (z2b n), .int .i64 0], .string (z2b n), .int .i64 0, .pointer (some ⟨x, 0, none⟩), .pointer (some ⟨x, 0, none⟩), .pointer (some ⟨x, 0, none⟩), .pointer (some ⟨x, 0, none⟩), .pointer (some ⟨t, 0, none⟩), .pointer (some ⟨x, 0, none⟩), .int .i64 n, .pointer (some ⟨x, 0, none⟩), .pointer (some ⟨x, 1, none⟩), .pointer (some ⟨x, 1 + n * 4, none⟩), .pointer (some ⟨x, 1 + n * 4 + 1, none⟩), .agg #[.int .i64 (an n), .int .u32 (lt n).agen], .func (.func 84) #[] #[.pointer (some ⟨H, 0, none⟩), .pointer (some ⟨(H + 1), 0, none⟩)], .string e.1, .string e.2, u36, u37, u38, u39, u40, u41, u42, u43], defers := [] }) (fun _ _ _ _ _ _ h _ _ => h) ?assign ?body ?done ?stop
   case assign =>
    intro l0 pre e W1 K hi hK
    unfold encE
    gi_wp2_with fail
    exact hK _ _ (KeepsFrom.refl _ _) (KpM.refl _ _ _) hi rfl
   case body =>
    rintro l0 pre e a' W1 hl hrec ⟨hj1, hc, hmm, hmk⟩ rfl hlen1
    have y0 := cell_of hc.2.1 0
    have p0 := cell_of hc.2.2.2 0
    have hes : e.1.size <= 1000 := HCS.out n hnm e (hlen1.subset (by simp))
    have hpz : (z2b n).size = 8 := rfl
    have hpe : pf ++ z1m n pre ++ [(z2b n ++ e.1, e.2)] = pf ++ z1m n (pre ++ [e]) := by unfold z1m; rw [List.map_append, List.append_assoc]; rfl
    obtain ⟨fn, tmps, assign, body, hy, hR1⟩ := HY.out _ (z2b n ++ e.1, e.2) _ 5 hj1 (by
     rw [hpe, HSP.out, <- List.append_assoc]
     refine List.IsPrefix.trans ?_ (List.prefix_append _ _)
     rw [List.prefix_append_right_inj]
     exact List.IsPrefix.map _ hlen1)
    unfold encE at hy
    try dsimp only at hy
    rw [hpe] at hR1
    have HRR := hid (z2s l0 hR1)
    have HCC := hid hc
    have HMM := hid hmm
    have HMK := hid hmk
    clear hR1 hj1 hc hmm hmk hpe hlen1
    gi_wp2_with fail
    refine HRR.out.mono ?_
    rintro ee W3 (⟨rfl, hJ3, hk3, hq3⟩ | ⟨rfl, hJx3, hq3⟩)
    ·have HQQ := hid (And.intro hJ3 (And.intro hk3 hq3))
     clear hJ3 hk3 hq3 HRR
     gi_wp2_with fail
     obtain ⟨hJ3, hk3, hq3⟩ := HQQ.out
     obtain ⟨c1, c2, c3, c4⟩ := HCC.out
     obtain ⟨m1, m2, m3, m4⟩ := HMM.out
     refine ⟨z0p hq3 (by omega), hk3, hJ3, ⟨hk3.cells A _ (by omega) m1 c1 rfl, hk3.cells U _ (by omega) m2 c2 rfl, hk3.cells G _ (by have := HGN.out; omega) m3 c3 rfl, hk3.cells V _ (by omega) m4 c4 rfl⟩, ⟨hk3.priv m1 (lt_of_block c1), hk3.priv m2 (lt_of_block c2), hk3.priv m3 (lt_of_block c3), hk3.priv m4 (lt_of_block c4)⟩, HMK.out.keeps (z0p hq3 (by omega))⟩
    ·have HQQ := hid (And.intro hJx3 hq3)
     clear hJx3 hq3 HRR
     gi_wp2_with fail
     obtain ⟨hJx3, hq3⟩ := HQQ.out
     exact ⟨z0p hq3 (by omega), hJx3, HMK.out.keeps (z0p hq3 (by omega))⟩
   case done =>
    rintro D xs W4 hD rfl ⟨hj1, ⟨c1, c2, c3, c4⟩, ⟨m1, m2, m3, m4⟩, hmk⟩ hK
    have HQQ := hid (And.intro hj1 (And.intro c1 (And.intro c2 (And.intro c3 (And.intro m1 (And.intro m2 (And.intro m3 (hmk.cons (by omega) hK (fun d hd D' e => by have := HMKa.out.lt d hd D' e; omega)))))))))
    clear hj1 c1 c2 c3 c4 m1 m2 m3 m4 hmk hK
    have ht16 := HT16.out
    gi_wp2_with fail
    obtain ⟨hj1, c1, c2, c3, m1, m2, m3, hmk⟩ := HQQ.out
    rw [<- HSU.out] at hj1
    exact ⟨⟨j + 1, _, _, _, _, _, _, _, _, _, _, _, _, _, _, _, _, _, _, _, _, _, _, _, _, _, _, _, _, _, _, _, _, _, _, _, ⟨by omega, hj1, ⟨c1, c2, fun _ => c3⟩, ⟨m1, m2, fun _ => m3⟩, hmk⟩, rfl⟩, by simp [intOf]; omega⟩
   case stop =>
    rintro D pre W4 hD hpre ⟨hj1, hmk⟩ hK
    have HQQ := hid (And.intro hj1 (hmk.cons (by omega) hK (fun d hd D' e => by have := HMKa.out.lt d hd D' e; omega)))
    clear hj1 hmk hK
    gi_wp2_with fail
    refine z2o (B := U + 1) (fun W' => Jx (pf ++ z1m n pre) W') (fun w' D hD hj hK => hJx.putObj (.deferred none) hj (by omega) hK rfl) (fun w' hj => ?_) _ W4 HQQ.out.2 HQQ.out.1
    refine ⟨_, results_none rfl _ _ _, ⟨_, rfl⟩, .inr ⟨_, ?_, hj⟩⟩
    rw [HSP.out, <- List.append_assoc]
    refine List.IsPrefix.trans ?_ (List.prefix_append _ _)
    rw [List.prefix_append_right_inj]
    exact List.IsPrefix.map _ hpre
  ·obtain rfl : j = TT.length := by omega
   gi_wp2_with fail
   have hJf : J (z0v lt Es) wr := by
    have := HJS.out
    rw [List.take_length] at this
    unfold z0v
    rw [hTT]
    exact this
   refine z2o (B := U + 1) (fun W' => J (z0v lt Es) W') (fun w' D hD hj hK => hJ.putObj (.deferred none) hj (by omega) hK rfl) (fun w' hj => ?_) ds wr HMK.out hJf
   exact ⟨_, results_none rfl _ _ _, ⟨_, rfl⟩, .inl ⟨_, rfl, hj⟩⟩
end Go.Proofs.YtgdmfledhhoedaaGreatDoor.T
