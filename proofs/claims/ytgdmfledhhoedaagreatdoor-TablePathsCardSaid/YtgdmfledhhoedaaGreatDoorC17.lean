/- Part 17 of 26. -/
import Derived.Test.YtgdmfledhhoedaaGreatDoorC15
import Derived.Test.YtgdmfledhhoedaaGreatDoorC16
import Derived.Test.YtgdmfledhhoedaaGreatDoorC08
import Derived.Test.YtgdmfledhhoedaaGreatDoorC04
import Derived.Test.YtgdmfledhhoedaaGreatDoorC13
import Derived.Test.YtgdmfledhhoedaaGreatDoorC01
import Derived.Test.YtgdmfledhhoedaaGreatDoorC14
namespace Go.Burg
open Go Go.RowKit
open Go.Proofs.YtgdmfledhhoedaaGreatDoor.T (z1k)
def LtB (a b : List UInt8) : Prop := ∃ p x y r r', a = p ++ x :: r /\ b = p ++ y :: r' /\ x < y
variable {a pre : List UInt8}
theorem LtB.irrefl : ¬ LtB a a := by
 rintro ⟨p, x, y, r, r', h1, h2, h3⟩
 rw [h1] at h2
 have := List.append_cancel_left h2
 injection this with e _
 subst e
 exact absurd h3 (UInt8.lt_irrefl x)
def Up (E : Ents) : Prop := E.Pairwise fun a b => LtB (byt a.1) (byt b.1)
theorem LtB.of_prefix {p : List UInt8} {x y : UInt8} {b : List UInt8} (ha : p ++ [x] <+: a) (hb : p ++ [y] <+: b) (h : x < y) : LtB a b := by
 obtain ⟨r, rfl⟩ := ha
 obtain ⟨r', rfl⟩ := hb
 exact ⟨p, x, y, r, r', by simp, by simp, h⟩
variable {E E1 E2 Eu : Ents} {g gj gm gp s : Int} {P : List (Cel PNd)} {i j k kp m n : Nat}
theorem Sub.up {pl : Bool} {S : Nat -> Prop} (h : Sub P i g pl pre S E) : Up E := by
 induction h with
 | leaf => exact List.pairwise_singleton _ _
 | @node i g k pt L pl pre ki Ss Es h hk hsub d1 d2 hr hok hl hn ha ih =>
  unfold Up
  rw [List.pairwise_flatMap]
  refine ⟨fun j hj => ih j _ (List.getElem?_eq_getElem (List.mem_range.1 hj)), ?_⟩
  refine List.Pairwise.imp_of_mem ?_ (List.pairwise_lt_range (n := L.length))
  intro a b ha' hb' hab x hx y hy
  have la := List.mem_range.1 ha'
  have lb := List.mem_range.1 hb'
  have sa := hsub a _ (List.getElem?_eq_getElem la)
  have sb := hsub b _ (List.getElem?_eq_getElem lb)
  have hlt := List.pairwise_iff_getElem.1 hr a b la lb hab
  have oa := (hok _ (List.getElem_mem la)).1
  have ob := (hok _ (List.getElem_mem lb)).1
  refine LtB.of_prefix (sa.mem x hx).1 (sb.mem y hy).1 ?_
  unfold Kd.byte
  rw [UInt8.lt_iff_toNat_lt]
  simp
  omega
variable {c pt ptp v : ByteArray}
theorem Up.ne (h : Up (E1 ++ ([(c, v)] ++ E2))) : ∀ e, e ∈ E1 ++ E2 -> e.1 ≠ c := by
 intro e he hc
 unfold Up at h
 rw [List.pairwise_append] at h
 obtain ⟨_, h2, h3⟩ := h
 rcases List.mem_append.1 he with he | he
 ·have := h3 e he (c, v) (by simp)
  rw [hc] at this
  exact this.irrefl
 ·have := (List.pairwise_cons.1 h2).1 e he
  rw [<- hc] at this
  exact this.irrefl
theorem fork_ins {x y : Kd} (_h : x.b ≠ y.b) : insK [x] y = z1k x y := by
 unfold z1k
 by_cases h1 : x.b < y.b
 ·rw [if_pos h1]
  simp [insK, ltK, h1]
 ·rw [if_neg h1]
  have h2 : ¬ x.b < y.b := h1
  simp [insK, ltK, h1]
variable {L Lp : List Kd}
section
variable {P P' : List (Cel PNd)} {pre : List UInt8}
theorem Sub.shorten {u : Nat} {gu : Int} {pt' : ByteArray} {Su : Nat -> Prop} {b : UInt8} (h : Sub P u gu false pre Su Eu) (hu : z0k P u gu u ⟨.z0j k pt L, false, false⟩) (hb : byt pt = a ++ [b] ++ byt pt') (h' : z0k P' u gu u ⟨.z0j k pt' L, false, false⟩) (hf : ∀ x, Su x -> x ≠ u -> P'[x]? = P[x]?) :
 Sub P' u gu false (pre ++ a ++ [b]) Su Eu := by
 cases h with
 | leaf hl => have := (hu.uniq hl).2; cases this
 | @node _ _ k2 pt2 L2 _ _ ki Ss Es hl hk hsub d1 d2 hr hok hL hn ha =>
  have e := (hu.uniq hl).2
  injection e with e1 _ _
  injection e1 with e2 e3 e4
  subst e2 e3 e4
  refine Sub.node h' hk (fun j kd hj => ?_) d1 d2 hr hok hL (fun e => ?_) (fun e => by cases e)
  ·have := hsub j kd hj
   rw [hb] at this
   have e5 : pre ++ a ++ [b] ++ byt pt' ++ [kd.byte] = pre ++ (a ++ [b] ++ byt pt') ++ [kd.byte] := by simp
   rw [e5]
   have hjl := (List.getElem?_eq_some_iff.1 hj).1
   exact this.frame fun x hx => hf x (.inr ⟨j, hjl, hx⟩) (d1 j x hjl hx)
  ·obtain ⟨n1, n2, n3⟩ := hn e
   refine ⟨n1, n2, ?_⟩
   have := congrArg List.length hb
   simp [z0z] at this
   omega
theorem Sub.fork {nx ny : Nat} {gx gy : Int} {bx by_ : UInt8} {Sx Sy : Nat -> Prop} {Ex Ey : Ents} (hx : Sub P nx gx false (pre ++ byt pt ++ [bx]) Sx Ex) (hy : Sub P ny gy false (pre ++ byt pt ++ [by_]) Sy Ey) (hne : bx ≠ by_) (hm : z0k P m gm m ⟨.z0j 2 pt (z1k ⟨bx.toNat, nx, gx⟩ ⟨by_.toNat, ny, gy⟩), false, false⟩)
 (d1 : ∀ z, Sx z -> z ≠ m) (d2 : ∀ z, Sy z -> z ≠ m /\ ¬ Sx z) (okx : (⟨bx.toNat, nx, gx⟩ : Kd).ok) (oky : (⟨by_.toNat, ny, gy⟩ : Kd).ok) (hp : pt.size <= 34) :
 ∃ S' E', Sub P m gm false pre S' E' /\ E'.Perm (Ey ++ Ex) /\ ∀ z, S' z -> z = m \/ Sy z \/ Sx z := by
 have hb : ((⟨bx.toNat, nx, gx⟩ : Kd).b) ≠ (⟨by_.toNat, ny, gy⟩ : Kd).b := fun e => hne (UInt8.toNat_inj.1 (by have e' : (bx.toNat : Int) = by_.toNat := e; omega))
 have e1 : (⟨(bx.toNat : Int), nx, gx⟩ : Kd).byte = bx := kd_byte rfl
 have e2 : (⟨(by_.toNat : Int), ny, gy⟩ : Kd).byte = by_ := kd_byte rfl
 have at0 : ∀ {j : Nat} {kd : Kd}, [(⟨(bx.toNat : Int), nx, gx⟩ : Kd)][j]? = some kd -> j = 0 /\ kd = ⟨bx.toNat, nx, gx⟩ := fun {j kd} h => by
  have := (List.getElem?_eq_some_iff.1 h).1
  obtain rfl : j = 0 := by simp at this; omega
  exact ⟨rfl, (Option.some.inj h).symm⟩
 obtain ⟨S', E', h1, h2, h3⟩ := Sub.more (P := P) (P' := P) (u := m) (gu := gm) (k' := 2) (pt := pt) (pl := false) (pre := pre) (L := [⟨bx.toNat, nx, gx⟩]) (ki := fun _ => nx) (Ss := fun _ => Sx) (Es := fun _ => Ex) (x := (by_.toNat : Int)) (n := ny) (gn := gy)
  (fun j kd h => by obtain ⟨_, rfl⟩ := at0 h; rfl) (fun j kd h => by obtain ⟨_, rfl⟩ := at0 h; rw [e1]; exact hx) (fun j j' x h h' _ _ => by simp at h h'; omega)
  (List.pairwise_singleton _ _) (fun kd hkd => by simp at hkd; subst hkd; exact okx) (by rw [e2]; exact hy) (by rw [fork_ins hb]; exact hm) (by
   unfold z0o
   refine List.find?_eq_none.2 fun z hz => ?_
   simp at hz
   subst hz
   simpa using hb)
  (fun _ _ _ _ => rfl) (fun j z _ hz => d1 z hz) (fun z hz => ⟨(d2 z hz).1, fun j _ => (d2 z hz).2⟩) oky (by simp) (fun _ => ⟨by simp, by simp [kindOf], hp⟩) (fun e => by cases e)
 refine ⟨S', E', h1, by simpa using h2, fun z hz => ?_⟩
 rcases h3 z hz with h | h | ⟨j, _, h⟩
 ·exact .inl h
 ·exact .inr (.inl h)
 ·exact .inr (.inr h)
end
theorem first_ex {α : Type} : ∀ {P : List (Cel α)}, 1 <= z1i P -> ∃ (j : Nat) (pj : Cel α), z2q P (j : Int) /\ P[j]? = some pj /\ pj.room = true
 | [], h => by simp [z1i] at h
 | p :: P, h => by
  cases hp : p.room with
  | true => exact ⟨0, p, .inl ⟨0, p, rfl, rfl, hp, fun j hj => by omega⟩, rfl, hp⟩
  | false =>
   have h' : 1 <= z1i P := by
    unfold z1i at h ⊢
    rw [List.filter_cons] at h
    simpa [hp] using h
   obtain ⟨j, pj, h1, h2, h3⟩ := first_ex h'
   refine ⟨j + 1, pj, .inl ⟨j + 1, pj, rfl, h2, h3, fun m hm d hd => ?_⟩, h2, h3⟩
   cases m with
   | zero => cases hd; exact hp
   | succ m =>
    rcases h1 with ⟨k, c, e, _, _, hb⟩ | ⟨e, _⟩
    ·exact hb m (by omega) d (by simpa using hd)
    ·omega
theorem roomN_set {α : Type} : ∀ {P : List (Cel α)} {j : Nat} {p c : Cel α}, P[j]? = some p -> p.room = true -> c.room = false -> z1i (P.set j c) + 1 = z1i P
 | [], j, p, c, h, _, _ => by simp at h
 | a :: P, 0, p, c, h, hp, hc => by
  cases h
  unfold z1i
  rw [List.set_cons_zero, List.filter_cons, List.filter_cons]
  simp [hp, hc]
 | a :: P, j + 1, p, c, h, hp, hc => by
  have := roomN_set (P := P) (j := j) (c := c) (by simpa using h) hp hc
  unfold z1i at this ⊢
  rw [List.set_cons_succ, List.filter_cons, List.filter_cons]
  cases a.room <;> simp <;> omega
theorem roomN_same {α : Type} : ∀ {P : List (Cel α)} {j : Nat} {p c : Cel α}, P[j]? = some p -> p.room = false -> c.room = false -> z1i (P.set j c) = z1i P
 | [], j, p, c, h, _, _ => by simp at h
 | a :: P, 0, p, c, h, hp, hc => by
  cases h
  unfold z1i
  rw [List.set_cons_zero, List.filter_cons, List.filter_cons]
  simp [hp, hc]
 | a :: P, j + 1, p, c, h, hp, hc => by
  have := roomN_same (P := P) (j := j) (c := c) (by simpa using h) hp hc
  unfold z1i at this ⊢
  rw [List.set_cons_succ, List.filter_cons, List.filter_cons]
  cases a.room <;> simp <;> omega
theorem rise_room (hr : Rise L) (hok : ∀ x ∈ L, x.ok) : L.length <= 256 := by
 have key : ∀ (j : Nat) (hj : j < L.length), (j : Int) <= L[j].b := by
  intro j
  induction j with
  | zero => intro hj; exact (hok _ (List.getElem_mem hj)).1.1
  | succ j ih =>
   intro hj
   have h1 := ih (by omega)
   have h2 := List.pairwise_iff_getElem.1 hr j (j + 1) (by omega) hj (by omega)
   omega
 by_cases h0 : L.length = 0
 ·omega
 ·have h1 := key (L.length - 1) (by omega)
  have h2 := (hok _ (List.getElem_mem (show L.length - 1 < L.length by omega))).1.2
  omega
theorem comL_full1 : ∀ {l m : List UInt8}, comL l m = l.length -> l <+: m
 | [], m, _ => List.nil_prefix
 | x :: l, [], h => by simp [comL] at h
 | x :: l, y :: m, h => by
  unfold comL at h
  split at h
  ·rename_i e
   subst e
   exact List.cons_prefix_cons.2 ⟨rfl, comL_full1 (by simpa using h)⟩
  ·simp at h
theorem comL_take : ∀ (l m : List UInt8), l.take (comL l m) = m.take (comL l m)
 | [], m => by simp [comL]
 | x :: l, [] => by simp [comL]
 | x :: l, y :: m => by
  unfold comL
  split
  ·rename_i e
   subst e
   simp [comL_take l m]
  ·simp
theorem byt_ext (b : ByteArray) (n : Nat) : byt (b.extract 0 n) = (byt b).take n := by
 unfold byt
 have e1 : (b.extract 0 n).data = b.data.extract 0 n := by simp
 rw [e1, Array.toList_extract, List.extract_eq_take_drop]
 simp
theorem byt_inj {a b : ByteArray} (h : byt a = byt b) : a = b := by
 cases a
 cases b
 simp only [byt] at h
 rw [Array.toList_inj.1 h]
theorem take_one {r : List UInt8} {x : UInt8} (h : r[n]? = some x) : r.take n ++ [x] <+: r := by
 obtain ⟨hl, rfl⟩ := List.getElem?_eq_some_iff.1 h
 refine ⟨r.drop (n + 1), ?_⟩
 rw [List.append_assoc, List.singleton_append, <- List.drop_eq_getElem_cons hl, List.take_append_drop]
section
variable {c cd pt : ByteArray} {pre : List UInt8}
theorem rst_pre (hp : pre <+: byt c) : byt c = pre ++ byt (rst c pre.length) := by
 obtain ⟨r, hr⟩ := hp
 rw [byt_rst, <- hr]
 simp
theorem part_leaf (hc : z2k c) (hd : z2k cd) (hp : pre <+: byt c) (hq : pre <+: byt cd) (hne : cd ≠ c) :
 ∃ x y, (byt (rst c pre.length))[com (rst c pre.length) (rst cd pre.length)]? = some x /\ (byt cd)[pre.length + com (rst c pre.length) (rst cd pre.length)]? = some y /\ x ≠ y /\
  pre ++ byt ((rst c pre.length).extract 0 (com (rst c pre.length) (rst cd pre.length))) ++ [x] <+: byt c /\ pre ++ byt ((rst c pre.length).extract 0 (com (rst c pre.length) (rst cd pre.length))) ++ [y] <+: byt cd := by
 have e1 := rst_pre hp
 have e2 := rst_pre hq
 generalize hn : com (rst c pre.length) (rst cd pre.length) = n
 have hn' : comL (byt (rst c pre.length)) (byt (rst cd pre.length)) = n := hn
 rw [byt_ext]
 generalize byt (rst c pre.length) = r at *
 generalize byt (rst cd pre.length) = r' at *
 have n1 : ¬ r <+: r' := fun h => hne (byt_inj (hc.prefix hd (by rw [e1, e2]; exact (List.prefix_append_right_inj pre).2 h)).symm)
 have n2 : ¬ r' <+: r := fun h => hne (byt_inj (hd.prefix hc (by rw [e1, e2]; exact (List.prefix_append_right_inj pre).2 h)))
 have l1 := comL_le1 r r'
 have l2 := comL_le2 r r'
 have lt1 : n < r.length := by
  rcases Nat.lt_or_ge n r.length with h | h
  ·exact h
  ·exact absurd (comL_full1 (by omega)) n1
 have lt2 : n < r'.length := by
  rcases Nat.lt_or_ge n r'.length with h | h
  ·exact h
  ·exact absurd (comL_full (by omega)) n2
 have g1 : r[n]? = some r[n] := List.getElem?_eq_getElem lt1
 have g2 : r'[n]? = some r'[n] := List.getElem?_eq_getElem lt2
 refine ⟨r[n], r'[n], g1, ?_, comL_end r r' _ _ (by rw [hn']; exact g1) (by rw [hn']; exact g2), ?_, ?_⟩
 ·rw [e2, List.getElem?_append_right (by omega), Nat.add_sub_cancel_left]
  exact g2
 ·rw [e1, List.append_assoc]
  exact (List.prefix_append_right_inj pre).2 (take_one g1)
 ·have e3 := comL_take r r'
  rw [hn'] at e3
  rw [e2, List.append_assoc, e3]
  exact (List.prefix_append_right_inj pre).2 (take_one g2)
theorem part_path {e : ByteArray} (hc : z2k c) (he : z2k e) (hp : pre <+: byt c) (hq : ∃ z, pre ++ byt pt ++ [z] <+: byt e) (hlt : com (rst c pre.length) pt < pt.size) :
 ∃ x y, (byt (rst c pre.length))[com (rst c pre.length) pt]? = some x /\ (byt pt)[com (rst c pre.length) pt]? = some y /\ x ≠ y /\
  pre ++ byt ((rst c pre.length).extract 0 (com (rst c pre.length) pt)) ++ [x] <+: byt c /\ byt pt = byt ((rst c pre.length).extract 0 (com (rst c pre.length) pt)) ++ [y] ++ (byt pt).drop (com (rst c pre.length) pt + 1) := by
 have e1 := rst_pre hp
 generalize hn : com (rst c pre.length) pt = n at *
 have hn' : comL (byt (rst c pre.length)) (byt pt) = n := hn
 rw [byt_ext]
 rw [<- z0z] at hlt
 generalize byt (rst c pre.length) = r at *
 generalize byt pt = r' at *
 have l1 := comL_le1 r r'
 have lt1 : n < r.length := by
  rcases Nat.lt_or_ge n r.length with h | h
  ·exact h
  ·exfalso
   obtain ⟨z, hz⟩ := hq
   have h1 : r <+: r' := comL_full1 (by omega)
   have h2 : byt c <+: byt e := by
    rw [e1]
    exact ((List.prefix_append_right_inj pre).2 h1).trans ((List.prefix_append _ _).trans hz)
   have h3 := hz.length_le
   rw [<- hc.prefix he h2, e1] at h3
   have h4 := h1.length_le
   simp at h3
   omega
 have g1 : r[n]? = some r[n] := List.getElem?_eq_getElem lt1
 have g2 : r'[n]? = some r'[n] := List.getElem?_eq_getElem hlt
 refine ⟨r[n], r'[n], g1, g2, comL_end r r' _ _ (by rw [hn']; exact g1) (by rw [hn']; exact g2), ?_, ?_⟩
 ·rw [e1, List.append_assoc]
  exact (List.prefix_append_right_inj pre).2 (take_one g1)
 ·have e2 := comL_take r r'
  rw [hn'] at e2
  rw [e2, List.append_assoc, List.singleton_append, <- List.drop_eq_getElem_cons hlt, List.take_append_drop]
end
theorem kind_le (h : n + 1 <= 256) : kindOf n <= kindOf (n + 1) /\ kindOf (n + 1) <= 5 /\ n + 1 <= z0t (kindOf (n + 1)) := by
 unfold kindOf
 repeat' split
 all_goals first | omega | (simp [z0t]; omega)
open Go.Proofs.YtgdmfledhhoedaaGreatDoor.T (z1k)
def Alive (P : List (Cel PNd)) (x : Nat) : Prop := ∃ g q, z0k P x g x q
def GenOk (P : List (Cel PNd)) : Prop := ∀ p ∈ P, 0 <= p.gen /\ p.gen <= 4294967295
def PutE (E E' : Ents) (c v : ByteArray) : Prop := E'.Perm ((c, v) :: E.filter fun e => decide (e.1 ≠ c))
structure Chg (P P' : List (Cel PNd)) (n : Nat) : Prop where
 len : P'.length = P.length
 gen : GenOk P -> GenOk P'
 room : z1i P <= z1i P' + n
structure PutR (P P' : List (Cel PNd)) (i : Nat) (g : Int) (S S' : Nat -> Prop) (E E' : Ents) (c v : ByteArray) : Prop where
 sub : Sub P' i g true [] S' E'
 ent : PutE E E' c v
 keep : ∀ x, ¬ S x -> Alive P x -> P'[x]? = P[x]?
 fr : ∀ x, S' x -> S x \/ ¬ Alive P x
theorem Chg.refl (P : List (Cel PNd)) : Chg P P 0 := ⟨rfl, id, Nat.le_refl _⟩
theorem Chg.trans {A B C : List (Cel PNd)} {m n k : Nat} (h : Chg A B m) (h' : Chg B C n) (e : k = m + n) : Chg A C k := ⟨h'.len.trans h.len, fun x => h'.gen (h.gen x), by have := h.room; have := h'.room; omega⟩
theorem GenOk.at (h : GenOk P) {j : Nat} {p : Cel PNd} (hj : P[j]? = some p) : 0 <= p.gen := (h p (List.mem_of_getElem? hj)).1
theorem GenOk.le (h : GenOk P) {j : Nat} {p : Cel PNd} (hj : P[j]? = some p) : p.gen <= 4294967295 := (h p (List.mem_of_getElem? hj)).2
variable {p : Cel PNd}
theorem Chg.take (hj : P[j]? = some p) (hr : p.room = true) (q : PNd) : Chg P (P.set j ⟨true, q, p.gen + 1⟩) 1 := by
 refine ⟨by simp, fun h x hx => ?_, ?_⟩
 ·rcases List.mem_or_eq_of_mem_set hx with hx | rfl
  ·exact h x hx
  ·have h1 := h.at hj; have h2 : p.gen < 4294967295 := by unfold Cel.room at hr; simp at hr; exact hr.2
   exact ⟨show 0 <= p.gen + 1 by omega, show p.gen + 1 <= 4294967295 by omega⟩
 ·have := roomN_set (c := (⟨true, q, p.gen + 1⟩ : Cel PNd)) hj hr rfl
  omega
theorem Chg.turn {q0 : PNd} (h : z0k P s g i q0) (q : PNd) : Chg P (P.set i ⟨true, q, g⟩) 0 := by
 obtain ⟨_, p, h1, h2, h3, _⟩ := h
 refine ⟨by simp, fun h x hx => ?_, ?_⟩
 ·rcases List.mem_or_eq_of_mem_set hx with hx | rfl
  ·exact h x hx
  ·have h4 := h.at h1; have h5 := h.le h1
   exact ⟨show 0 <= g by omega, show g <= 4294967295 by omega⟩
 ·have hr : p.room = false := by unfold Cel.room; rw [h2]; rfl
  rw [roomN_same (c := (⟨true, q, g⟩ : Cel PNd)) h1 hr rfl]
  omega
theorem alive_not (hj : P[j]? = some p) (hr : p.room = true) : ¬ Alive P j := by
 rintro ⟨g, q, h⟩
 obtain ⟨p', h1, h2⟩ := h.noroom
 rw [hj] at h1
 cases h1
 rw [hr] at h2
 cases h2
theorem z0k.put (h : i < P.length) (g : Int) (q : PNd) : z0k (P.set i ⟨true, q, g⟩) i g i q := ⟨rfl, _, List.getElem?_set_self h, rfl, rfl, rfl⟩
theorem z0k.lt {q : PNd} (h : z0k P s g i q) : i < P.length := by
 obtain ⟨_, p, h1, _⟩ := h
 exact (List.getElem?_eq_some_iff.1 h1).1
theorem Up.codes (h : Up E) : (E.map fun e => byt e.1).Nodup := by
 unfold Up at h
 rw [List.Nodup, List.pairwise_map]
 exact h.imp fun hab e => by rw [e] at hab; exact hab.irrefl
theorem PutE.new {E' : Ents} (h : Up E') (hp : E'.Perm ((c, v) :: E)) : PutE E E' c v := by
 have h1 := ((hp.map fun e => byt e.1).nodup_iff).1 h.codes
 rw [List.map_cons, List.nodup_cons] at h1
 have h2 : (E.filter fun e => decide (e.1 ≠ c)) = E := List.filter_eq_self.2 fun e he => by
  simp only [ne_eq, decide_eq_true_eq]
  intro hc
  exact h1.1 (List.mem_map.2 ⟨e, he, by rw [hc]⟩)
 unfold PutE
 rw [h2]
 exact hp
theorem PutE.one {Eu' : Ents} (h : Up (E1 ++ (Eu' ++ E2))) (hp : Eu'.Perm ((c, v) :: Eu)) (hE : E = E1 ++ (Eu ++ E2)) : PutE E (E1 ++ (Eu' ++ E2)) c v := by
 refine PutE.new h ?_
 rw [hE]
 exact ((hp.append_right E2).append_left E1).trans (List.perm_middle (l₁ := E1) (l₂ := Eu ++ E2))
theorem next_pre {x : UInt8} (hp : pre <+: byt c) (hcom : com (rst c pre.length) pt = pt.size) (hx : (byt (rst c pre.length))[pt.size]? = some x) : pre ++ byt pt ++ [x] <+: byt c := by
 have e1 := rst_pre hp
 have h1 : byt pt <+: byt (rst c pre.length) := comL_full (by rw [z0z]; exact hcom)
 have h2 : byt pt = (byt (rst c pre.length)).take pt.size := by
  have := List.prefix_iff_eq_take.1 h1
  rw [z0z] at this
  exact this
 rw [e1, List.append_assoc]
 refine (List.prefix_append_right_inj pre).2 ?_
 rw [h2]
 exact take_one hx
variable {plp : Bool}
section
variable {P P' : List (Cel PNd)} {i u : Nat} {g gu : Int} {plu : Bool} {preu : List UInt8} {S Su : Nat -> Prop} {E Eu E1 E2 : Ents} {c v : ByteArray}
theorem put_here {v0 : ByteArray} (hs : Sub P i g true [] S E) (hSu : Sub P u gu plu preu Su Eu) (hl : z0k P u gu u ⟨.leaf c v0, false, false⟩) (hE : E = E1 ++ (Eu ++ E2)) (hin : ∀ x, Su x -> S x) (hLS : LiftS P i g true [] S u gu plu preu Su E1 E2) (hpre : preu <+: byt c) (hc : z2k c) :
 ∃ S' E', PutR P (P.set u ⟨true, ⟨.leaf c v, false, false⟩, gu⟩) i g S S' E E' c v := by
 cases hSu with
 | node hl2 => have := (hl.uniq hl2).2; cases this
 | leaf hl2 hp2 hc2 =>
  have := (hl.uniq hl2).2
  cases this
  obtain ⟨S', h1, h2⟩ := hLS _ _ _ (Sub.leaf (P := P.set u ⟨true, ⟨.leaf c v, false, false⟩, gu⟩) (v := v) (.put hl.lt _ _) hpre hc) (fun x hx hn => List.getElem?_set_ne (fun e => hn e.symm)) (fun x hx => .inl hx)
  refine ⟨S', _, h1, ?_, fun x hx _ => List.getElem?_set_ne (fun e => hx (hin x e.symm)), fun x hx => ?_⟩
  ·have hne := Up.ne (hE ▸ hs.up)
   have hf : (E.filter fun e => decide (e.1 ≠ c)) = E1 ++ E2 := by
    rw [hE]
    simp only [List.filter_append, List.filter_cons, List.filter_nil]
    have a1 : (E1.filter fun e => decide (e.1 ≠ c)) = E1 := List.filter_eq_self.2 fun e he => by simpa using hne e (List.mem_append_left _ he)
    have a2 : (E2.filter fun e => decide (e.1 ≠ c)) = E2 := List.filter_eq_self.2 fun e he => by simpa using hne e (List.mem_append_right _ he)
    rw [a1, a2]
    simp
   unfold PutE
   rw [hf]
   exact List.perm_middle
  ·rcases h2 x hx with h | h
   ·exact .inl h.1
   ·exact .inl (hin x h)
theorem put_bare {x : UInt8} (hs : Sub P i g true [] S E) (hSu : Sub P u gu plu preu Su Eu) (hl : z0k P u gu u ⟨.z0j k pt L, plu, false⟩) (hE : E = E1 ++ (Eu ++ E2)) (hin : ∀ x, Su x -> S x) (hLS : LiftS P i g true [] S u gu plu preu Su E1 E2) (hpre : preu <+: byt c) (hc : z2k c)
 (hcom : com (rst c preu.length) pt = pt.size) (hx : (byt (rst c preu.length))[pt.size]? = some x) (hf : z0o L (x.toNat : Int) = none) (hj : ¬ Alive P j) (hok : (⟨x.toNat, j, gj⟩ : Kd).ok) {k' : Nat} (hk' : plu = false -> k' = kindOf (L.length + 1)) (hk5 : plu = true -> k' = 5)
 (hu' : z0k P' u gu u ⟨.z0j k' pt (insK L ⟨x.toNat, j, gj⟩), plu, false⟩) (hj' : z0k P' j gj j ⟨.leaf c v, false, false⟩) (hfr : ∀ z, z ≠ j -> z ≠ u -> P'[z]? = P[z]?) :
 ∃ S' E', PutR P P' i g S S' E E' c v := by
 have hS : ∀ {z}, S z -> Alive P z := fun hz => hs.live hz
 have huj : u ≠ j := fun e => hj (e ▸ ⟨_, _, hl⟩)
 have hw := hSu
 cases hSu with
 | leaf hl2 => have := (hl.uniq hl2).2; cases this
 | @node _ _ k2 pt2 L2 _ _ ki Ss Es hl2 hk hsub d1 d2 hr hok2 hL hn ha =>
  have e := (hl.uniq hl2).2
  injection e with e1 _ _
  injection e1 with e2 e3 e4
  subst e2 e3 e4
  have hb : (⟨(x.toNat : Int), (j : Int), gj⟩ : Kd).byte = x := kd_byte rfl
  have hrise : Rise (insK L ⟨x.toNat, j, gj⟩) := insK_rise hr (k := ⟨x.toNat, j, gj⟩) hf
  have hlen : L.length + 1 <= 256 := by
   have := rise_room hrise (Go.Proofs.YtgdmfledhhoedaaGreatDoor.O.insK_ok hok2 hok)
   rwa [z2u] at this
  have hne : ∀ m y, m < L.length -> Ss m y -> y ≠ j := fun m y hm hy e => hj (e ▸ hS (hin y (.inr ⟨m, hm, hy⟩)))
  obtain ⟨Su', Eu', m1, m2, m3⟩ := Sub.more (P := P) (P' := P') (k' := k') (pl := plu) (pre := preu) (Ss := Ss) (Es := Es) hk hsub d2 hr hok2 (Sn := (· = j)) (En := [(c, v)]) (by rw [hb]; exact .leaf hj' (next_pre hpre hcom hx) hc) hu' hf (fun m y hm hy => hfr y (hne m y hm hy) (d1 m y hm hy)) d1 (fun y hy => ⟨by rw [hy]; exact huj.symm, fun m hm h => hne m y hm h hy⟩) hok hlen (fun e => ⟨by have := (hn e).1; omega, hk' e, (hn e).2.2⟩) (fun e => ⟨hk5 e, (ha e).2⟩)
  obtain ⟨S', h1, h2⟩ := hLS P' Su' Eu' m1 (fun z hz hn => hfr z (fun e => hj (e ▸ hS hz)) (fun e => hn (.inl e))) (fun z hz => by
   rcases m3 z hz with h | h | h
   ·exact .inl (.inl h)
   ·exact .inr fun h' => hj (h ▸ hS h')
   ·exact .inl (.inr h))
  refine ⟨S', _, h1, PutE.one h1.up m2 hE, fun z hz ha => hfr z (fun e => hj (e ▸ ha)) (fun e => hz (e ▸ hin u (.inl rfl))), fun z hz => ?_⟩
  rcases h2 z hz with h | h
  ·exact .inl h.1
  ·rcases m3 z h with h | h | h
   ·exact .inl (hin z (.inl h))
   ·exact .inr (h ▸ hj)
   ·exact .inl (hin z (.inr h))
theorem put_grow {p : Nat} {kk : Kd} {x : UInt8} (hs : Sub P i g true [] S E) (hSu : Sub P u gu false preu Su Eu) (hl : z0k P u gu u ⟨.z0j k pt L, false, false⟩) (hE : E = E1 ++ (Eu ++ E2)) (hin : ∀ x, Su x -> S x) (hLT : LiftT P i g true [] S p gp kp ptp Lp plp kk preu Su E1 E2) (hSp : S p) (hnp : ¬ Su p) (hpre : preu <+: byt c) (hc : z2k c)
 (hcom : com (rst c preu.length) pt = pt.size) (hx : (byt (rst c preu.length))[pt.size]? = some x) (hf : z0o L (x.toNat : Int) = none) (hj : ¬ Alive P j) (hm : ¬ Alive P m) (hjm : j ≠ m) (hok : (⟨x.toNat, j, gj⟩ : Kd).ok) (hokm : (⟨kk.b, m, gm⟩ : Kd).ok)
 (hm' : z0k P' m gm m ⟨.z0j (kindOf (L.length + 1)) pt (insK L ⟨x.toNat, j, gj⟩), false, false⟩) (hj' : z0k P' j gj j ⟨.leaf c v, false, false⟩) (hp' : z0k P' p gp p ⟨.z0j kp ptp (z1o Lp kk.b m gm), plp, false⟩) (hfr : ∀ z, z ≠ j -> z ≠ m -> z ≠ p -> z ≠ u -> P'[z]? = P[z]?) :
 ∃ S' E', PutR P P' i g S S' E E' c v := by
 have hS : ∀ {z}, S z -> Alive P z := fun hz => hs.live hz
 cases hSu with
 | leaf hl2 => have := (hl.uniq hl2).2; cases this
 | @node _ _ k2 pt2 L2 _ _ ki Ss Es hl2 hk hsub d1 d2 hr hok2 hL hn ha =>
  have e := (hl.uniq hl2).2
  injection e with e1 _ _
  injection e1 with e2 e3 e4
  subst e2 e3 e4
  have hb : (⟨(x.toNat : Int), (j : Int), gj⟩ : Kd).byte = x := kd_byte rfl
  have hrise : Rise (insK L ⟨x.toNat, j, gj⟩) := insK_rise hr (k := ⟨x.toNat, j, gj⟩) hf
  have hlen : L.length + 1 <= 256 := by
   have := rise_room hrise (Go.Proofs.YtgdmfledhhoedaaGreatDoor.O.insK_ok hok2 hok)
   rwa [z2u] at this
  have inS : ∀ n y, n < L.length -> Ss n y -> S y := fun n y hn hy => hin y (.inr ⟨n, hn, hy⟩)
  obtain ⟨Su', Eu', m1, m2, m3⟩ := Sub.more (P := P) (P' := P') (u := m) (gu := gm) (k' := kindOf (L.length + 1)) (pl := false) (pre := preu) (Ss := Ss) (Es := Es) hk hsub d2 hr hok2 (Sn := (· = j)) (En := [(c, v)]) (by rw [hb]; exact .leaf hj' (next_pre hpre hcom hx) hc) hm' hf
   (fun n y hn hy => hfr y (fun e => hj (e ▸ hS (inS n y hn hy))) (fun e => hm (e ▸ hS (inS n y hn hy))) (fun e => hnp (e ▸ .inr ⟨n, hn, hy⟩)) (d1 n y hn hy)) (fun n y hn hy e => hm (e ▸ hS (inS n y hn hy))) (fun y hy => ⟨by rw [hy]; exact hjm, fun n hn h => hj (hy ▸ hS (inS n y hn h))⟩) hok hlen (fun e => ⟨by have := (hn e).1; omega, rfl, (hn e).2.2⟩) (fun e => by cases e)
  obtain ⟨S', h1, h2⟩ := hLT P' m gm Su' Eu' m1 hp' (fun z hz hn hp => hfr z (fun e => hj (e ▸ hS hz)) (fun e => hm (e ▸ hS hz)) hp (fun e => hn (.inl e))) (fun z hz => by
   rcases m3 z hz with h | h | h
   ·exact .inr fun h' => hm (h ▸ hS h')
   ·exact .inr fun h' => hj (h ▸ hS h')
   ·exact .inl (.inr h)) hokm
  refine ⟨S', _, h1, PutE.one h1.up m2 hE, fun z hz ha => hfr z (fun e => hj (e ▸ ha)) (fun e => hm (e ▸ ha)) (fun e => hz (e ▸ hSp)) (fun e => hz (e ▸ hin u (.inl rfl))), fun z hz => ?_⟩
  rcases h2 z hz with h | h
  ·exact .inl h.1
  ·rcases m3 z h with h | h | h
   ·exact .inr (h ▸ hm)
   ·exact .inr (h ▸ hj)
   ·exact .inl (hin z (.inr h))
theorem put_fork {p : Nat} {pt0 : ByteArray} {kk : Kd} {x y : UInt8} (hs : Sub P i g true [] S E) (hE : E = E1 ++ (Eu ++ E2)) (hin : ∀ x, Su x -> S x) (hLT : LiftT P i g true [] S p gp kp ptp Lp plp kk preu Su E1 E2) (hSp : S p) (hSu : Su u) (hc : z2k c)
 (hu' : Sub P' u gu false (preu ++ byt pt0 ++ [y]) Su Eu) (hpx : preu ++ byt pt0 ++ [x] <+: byt c) (hxy : x ≠ y) (hp0 : pt0.size <= 34) (hj : ¬ Alive P j) (hm : ¬ Alive P m) (hjm : j ≠ m) (hoku : (⟨y.toNat, u, gu⟩ : Kd).ok) (hok : (⟨x.toNat, j, gj⟩ : Kd).ok) (hokm : (⟨kk.b, m, gm⟩ : Kd).ok)
 (hm' : z0k P' m gm m ⟨.z0j 2 pt0 (z1k ⟨y.toNat, u, gu⟩ ⟨x.toNat, j, gj⟩), false, false⟩) (hj' : z0k P' j gj j ⟨.leaf c v, false, false⟩) (hp' : z0k P' p gp p ⟨.z0j kp ptp (z1o Lp kk.b m gm), plp, false⟩) (hfr : ∀ z, z ≠ j -> z ≠ m -> z ≠ p -> z ≠ u -> P'[z]? = P[z]?) :
 ∃ S' E', PutR P P' i g S S' E E' c v := by
 have hS : ∀ {z}, S z -> Alive P z := fun hz => hs.live hz
 obtain ⟨Su', Eu', m1, m2, m3⟩ := Sub.fork hu' (Sub.leaf (v := v) hj' hpx hc) hxy.symm hm' (fun z hz e => hm (e ▸ hS (hin z hz))) (fun z hz => ⟨by rw [hz]; exact hjm, fun h => hj (hz ▸ hS (hin z h))⟩) hoku hok hp0
 obtain ⟨S', h1, h2⟩ := hLT P' m gm Su' Eu' m1 hp' (fun z hz hn hp => hfr z (fun e => hj (e ▸ hS hz)) (fun e => hm (e ▸ hS hz)) hp (fun e => hn (e ▸ hSu))) (fun z hz => by
  rcases m3 z hz with h | h | h
  ·exact .inr fun h' => hm (h ▸ hS h')
  ·exact .inr fun h' => hj (h ▸ hS h')
  ·exact .inl h) hokm
 refine ⟨S', _, h1, PutE.one h1.up m2 hE, fun z hz ha => hfr z (fun e => hj (e ▸ ha)) (fun e => hm (e ▸ ha)) (fun e => hz (e ▸ hSp)) (fun e => hz (e ▸ hin u hSu)), fun z hz => ?_⟩
 rcases h2 z hz with h | h
 ·exact .inl h.1
 ·rcases m3 z h with h | h | h
  ·exact .inr (h ▸ hm)
  ·exact .inr (h ▸ hj)
  ·exact .inl (hin z h)
end
theorem or_ne {D : Nat -> Bool} {a b : Nat} (h : ¬ a = b) : (D a || a == b) = D a := by simp [h]
structure NJ (S : Nat -> Prop) (P0 P1 : World -> Prop) (F : Nat -> World -> Value -> Prop) (W0 : World) (T : TypeId) (z : Array Value) (o1 : (Nat -> Value) -> Array Value) (os ls : List Nat) (iT iA iS : Nat) (fx fd : List Nat) (dl : Nat -> List Nat) (tab : Nat -> Value) (td : Nat -> (Nat -> Value) -> Value) (D : Nat -> Bool) (xs : Nat -> Value) (w : World) : Prop where
 m : Mod S W0 w
 p : cond (D iT) (P1 w) (P0 w)
 l : ∀ j, j ∈ ls -> D j = true -> F j w (xs j)
 a : D iA = true -> ∃ u, W0.heap.size <= u /\ xs iA = .pointer (some ⟨u, 0, none⟩) /\ w.heap[u]? = some (.cells (cond (D iS) (o1 xs) z) T (0, 0))
 v : ∀ j, D j = true -> j ∈ fx -> xs j = tab j
 e : ∀ j, D j = true -> j ∈ fd -> (∀ k, k ∈ dl j -> D k = true) /\ xs j = td j xs
 s : D iS = true -> D iA = true /\ ∀ k, k ∈ os -> D k = true
structure NJOk (S : Nat -> Prop) (P0 P1 : World -> Prop) (F : Nat -> World -> Value -> Prop) (W0 : World) (T : TypeId) (z : Array Value) (o1 : (Nat -> Value) -> Array Value) (os : List Nat) (dl : Nat -> List Nat) (td : Nat -> (Nat -> Value) -> Value) : Prop where
 b0 : ∀ w w', P0 w -> Below w.heap.size w w' -> P0 w'
 b1 : ∀ w w', P1 w -> Below w.heap.size w w' -> P1 w'
 bf : ∀ j w w' v, F j w v -> Below w.heap.size w w' -> F j w' v
 s0 : ∀ w w' u, W0.heap.size <= u -> w.heap[u]? = some (.cells z T (0, 0)) -> Mod (· = u) w w' -> P0 w -> P0 w'
 s1 : ∀ w w' u, W0.heap.size <= u -> w.heap[u]? = some (.cells z T (0, 0)) -> Mod (· = u) w w' -> P1 w -> P1 w'
 sf : ∀ j w w' u v, W0.heap.size <= u -> w.heap[u]? = some (.cells z T (0, 0)) -> Mod (· = u) w w' -> F j w v -> F j w' v
 tf : ∀ j w w' v, Mod S w w' -> F j w v -> F j w' v
 lt : ∀ k, S k -> k < W0.heap.size
 c1 : ∀ xs ys : Nat -> Value, (∀ k, k ∈ os -> xs k = ys k) -> o1 xs = o1 ys
 cd : ∀ j (xs ys : Nat -> Value), (∀ k, k ∈ dl j -> xs k = ys k) -> td j xs = td j ys
section
variable {S : Nat -> Prop} {P0 P1 : World -> Prop} {F : Nat -> World -> Value -> Prop} {W0 w w' : World} {T : TypeId} {z : Array Value} {o1 : (Nat -> Value) -> Array Value} {os ls : List Nat} {iT iA iS : Nat} {fx fd : List Nat} {dl : Nat -> List Nat} {tab : Nat -> Value} {td : Nat -> (Nat -> Value) -> Value} {D : Nat -> Bool} {xs : Nat -> Value}
theorem NJ.start (h : P0 W0.drew) : NJ S P0 P1 F W0 T z o1 os ls iT iA iS fx fd dl tab td (fun _ => false) (fun _ => undef) W0.drew :=
 ⟨(Mod.refl _ _).drew, h, fun _ _ h => (by cases h), fun h => (by cases h), fun j h => (by cases h), fun j h => (by cases h), fun h => (by cases h)⟩
theorem NJ.step (hk : NJOk S P0 P1 F W0 T z o1 os dl td) (h : NJ S P0 P1 F W0 T z o1 os ls iT iA iS fx fd dl tab td D xs w) {i : Nat} {u : Value} (hD : D i = false) (hm : Mod S W0 w') (hp : cond (D iT || iT == i) (P1 w') (P0 w')) (lk : ∀ j, j ∈ ls -> D j = true -> F j w' (xs j)) (ln : i ∈ ls -> F i w' u)
 (ak : ∀ b, D iA = true -> W0.heap.size <= b -> xs iA = .pointer (some ⟨b, 0, none⟩) -> w.heap[b]? = some (.cells (cond (D iS) (o1 xs) z) T (0, 0)) -> w'.heap[b]? = some (.cells (cond (D iS || iS == i) (o1 xs) z) T (0, 0)))
 (an : i = iA -> ∃ b, W0.heap.size <= b /\ u = .pointer (some ⟨b, 0, none⟩) /\ w'.heap[b]? = some (.cells z T (0, 0))) (_hAS : iA ≠ iS) (vn : i ∈ fx -> u = tab i) (en : i ∈ fd -> (∀ k, k ∈ dl i -> D k = true) /\ u = td i xs) (sn : i = iS -> D iA = true /\ ∀ k, k ∈ os -> D k = true) :
 NJ S P0 P1 F W0 T z o1 os ls iT iA iS fx fd dl tab td (fun j => D j || j == i) (fun j => if j = i then u else xs j) w' := by
 have old : ∀ k, D k = true -> (if k = i then u else xs k) = xs k := fun k hk => if_neg (fun e => by subst e; rw [hD] at hk; cases hk)
 have up : ∀ k, D k = true -> (D k || k == i) = true := fun k hk => by rw [hk]; rfl
 have so : (D iS || iS == i) = true -> D iA = true /\ ∀ k, k ∈ os -> D k = true := fun e => by
  simp only [Bool.or_eq_true, beq_iff_eq] at e
  rcases e with e | e
  ·exact h.s e
  ·exact sn e.symm
 refine ⟨hm, hp, fun j hj hd => ?_, fun e => ?_, fun j hj hr => ?_, fun j hj hr => ?_, fun e => ?_⟩
 ·by_cases e : j = i
  ·subst e; simp only [if_pos]; exact ln hj
  ·have hd' : D j = true := by simpa [e] using hd
   simp only [if_neg e]; exact lk j hj hd'
 ·have ec : cond (D iS || iS == i) (o1 (fun j => if j = i then u else xs j)) z = cond (D iS || iS == i) (o1 xs) z := by
   cases hs : (D iS || iS == i)
   ·rfl
   ·exact hk.c1 _ _ (fun k hk => old k ((so hs).2 k hk))
  simp only [ec]
  by_cases ei : iA = i
  ·subst ei
   obtain ⟨b, q1, q2, q3⟩ := an rfl
   have es : (D iS || iS == iA) = false := by
    cases hs : (D iS || iS == iA)
    ·rfl
    ·rw [(so hs).1] at hD; cases hD
   simp only [if_pos, es, cond_false]
   exact ⟨b, q1, q2, q3⟩
  ·have hA : D iA = true := by simpa [ei] using e
   obtain ⟨b, q1, q2, q3⟩ := h.a hA
   simp only [if_neg ei]
   exact ⟨b, q1, q2, ak b hA q1 q2 q3⟩
 ·by_cases e : j = i
  ·subst e; simp only [if_pos]; exact vn hr
  ·simp only [if_neg e]; exact h.v j (by simpa [e] using hj) hr
 ·by_cases e : j = i
  ·subst e
   obtain ⟨a, b⟩ := en hr
   simp only [if_pos]
   exact ⟨fun k hk => up k (a k hk), b.trans (hk.cd _ _ _ (fun k hk => (old k (a k hk)).symm))⟩
  ·obtain ⟨a, b⟩ := h.e j (by simpa [e] using hj) hr
   simp only [if_neg e]
   exact ⟨fun k hk => up k (a k hk), b.trans (hk.cd _ _ _ (fun k hk => (old k (a k hk)).symm))⟩
 ·obtain ⟨a, b⟩ := so e
  exact ⟨up _ a, fun k hk => up k (b k hk)⟩
theorem NJ.pk (hk : NJOk S P0 P1 F W0 T z o1 os dl td) (h : NJ S P0 P1 F W0 T z o1 os ls iT iA iS fx fd dl tab td D xs w) {i : Nat} (h2 : i ≠ iT) (hb : Below w.heap.size w w') : cond (D iT || iT == i) (P1 w') (P0 w') := by
 have e2 : (D iT || iT == i) = D iT := or_ne (fun e => h2 e.symm)
 rw [e2]
 have := h.p
 cases hd : D iT <;> rw [hd] at this
 ·exact hk.b0 _ _ this hb
 ·exact hk.b1 _ _ this hb
theorem NJ.calm (hk : NJOk S P0 P1 F W0 T z o1 os dl td) (h : NJ S P0 P1 F W0 T z o1 os ls iT iA iS fx fd dl tab td D xs w) {i : Nat} {u : Value} (hD : D i = false) (hb : Below w.heap.size w w') (hAS : iA ≠ iS := by decide) (h1 : i ∉ ls := by decide) (h2 : i ≠ iT := by decide) (h3 : i ≠ iA := by decide) (h4 : i ≠ iS := by decide) (h5 : i ∉ fd := by decide) (hu : i ∈ fx -> u = tab i := by intro h; cases h) : NJ S P0 P1 F W0 T z o1 os ls iT iA iS fx fd dl tab td (fun j => D j || j == i) (fun j => if j = i then u else xs j) w' := by
 have e4 : (D iS || iS == i) = D iS := or_ne (fun e => h4 e.symm)
 refine NJ.step hk h hD (h.m.trans (z1b hb) (fun _ _ e => e)) (NJ.pk hk h h2 hb) (fun j hj hd => hk.bf _ _ _ _ (h.l j hj hd) hb) (fun e => absurd e h1) (fun b hA q1 q2 q3 => ?_) (fun e => absurd e h3) hAS hu (fun e => absurd e h5) (fun e => absurd e h4)
 rw [e4]
 exact (hb.block b (lt_of_block q3)).trans q3
theorem NJ.dep (hk : NJOk S P0 P1 F W0 T z o1 os dl td) (h : NJ S P0 P1 F W0 T z o1 os ls iT iA iS fx fd dl tab td D xs w) {i : Nat} {u : Value} (hD : D i = false) (hd : ∀ k, k ∈ dl i -> D k = true) (hu : u = td i xs) (hb : Below w.heap.size w w') (hAS : iA ≠ iS := by decide) (h1 : i ∉ ls := by decide) (h2 : i ≠ iT := by decide) (h3 : i ≠ iA := by decide) (h4 : i ≠ iS := by decide) (h5 : i ∉ fx := by decide) : NJ S P0 P1 F W0 T z o1 os ls iT iA iS fx fd dl tab td (fun j => D j || j == i) (fun j => if j = i then u else xs j) w' := by
 have e4 : (D iS || iS == i) = D iS := or_ne (fun e => h4 e.symm)
 refine NJ.step hk h hD (h.m.trans (z1b hb) (fun _ _ e => e)) (NJ.pk hk h h2 hb) (fun j hj hd => hk.bf _ _ _ _ (h.l j hj hd) hb) (fun e => absurd e h1) (fun b hA q1 q2 q3 => ?_) (fun e => absurd e h3) hAS (fun e => absurd e h5) (fun _ => ⟨hd, hu⟩) (fun e => absurd e h4)
 rw [e4]
 exact (hb.block b (lt_of_block q3)).trans q3
theorem NJ.call (hk : NJOk S P0 P1 F W0 T z o1 os dl td) (h : NJ S P0 P1 F W0 T z o1 os ls iT iA iS fx fd dl tab td D xs w) {i : Nat} {u : Value} (hD : D i = false) (hu : F i w' u) (hb : Below w.heap.size w w') (hAS : iA ≠ iS := by decide) (h2 : i ≠ iT := by decide) (h3 : i ≠ iA := by decide) (h4 : i ≠ iS := by decide) (h5 : i ∉ fd := by decide) (h6 : i ∉ fx := by decide) : NJ S P0 P1 F W0 T z o1 os ls iT iA iS fx fd dl tab td (fun j => D j || j == i) (fun j => if j = i then u else xs j) w' := by
 have e4 : (D iS || iS == i) = D iS := or_ne (fun e => h4 e.symm)
 refine NJ.step hk h hD (h.m.trans (z1b hb) (fun _ _ e => e)) (NJ.pk hk h h2 hb) (fun j hj hd => hk.bf _ _ _ _ (h.l j hj hd) hb) (fun _ => hu) (fun b hA q1 q2 q3 => ?_) (fun e => absurd e h3) hAS (fun e => absurd e h6) (fun e => absurd e h5) (fun e => absurd e h4)
 rw [e4]
 exact (hb.block b (lt_of_block q3)).trans q3
theorem NJ.turn (hk : NJOk S P0 P1 F W0 T z o1 os dl td) (h : NJ S P0 P1 F W0 T z o1 os ls iT iA iS fx fd dl tab td D xs w) {u : Value} (hD : D iT = false) (hp : P1 w') (hm : Mod S w w') (hAS : iA ≠ iS := by decide) (h1 : iT ∉ ls := by decide) (h3 : iT ≠ iA := by decide) (h4 : iT ≠ iS := by decide) (h5 : iT ∉ fd := by decide) (hu : iT ∈ fx -> u = tab iT := by intro h; cases h) : NJ S P0 P1 F W0 T z o1 os ls iT iA iS fx fd dl tab td (fun j => D j || j == iT) (fun j => if j = iT then u else xs j) w' := by
 have e4 : (D iS || iS == iT) = D iS := or_ne (fun e => h4 e.symm)
 refine NJ.step hk h hD (h.m.trans hm (fun _ _ e => e)) (by simp; exact hp) (fun j hj hd => hk.tf _ _ _ _ hm (h.l j hj hd)) (fun e => absurd e h1) (fun b hA q1 q2 q3 => ?_) (fun e => absurd e h3) hAS hu (fun e => absurd e h5) (fun e => absurd e h4)
 rw [e4]
 exact (hm.block b (lt_of_block q3) (fun hs => by have := hk.lt b hs; omega)).trans q3
theorem NJ.turnF (hk : NJOk S P0 P1 F W0 T z o1 os dl td) (h : NJ S P0 P1 F W0 T z o1 os ls iT iA iS fx fd dl tab td D xs w) {u : Value} (hD : D iT = false) (hu : F iT w' u) (hp : P1 w') (hm : Mod S w w') (hAS : iA ≠ iS := by decide) (h1 : iT ∉ fx := by decide) (h3 : iT ≠ iA := by decide) (h4 : iT ≠ iS := by decide) (h5 : iT ∉ fd := by decide) : NJ S P0 P1 F W0 T z o1 os ls iT iA iS fx fd dl tab td (fun j => D j || j == iT) (fun j => if j = iT then u else xs j) w' := by
 have e4 : (D iS || iS == iT) = D iS := or_ne (fun e => h4 e.symm)
 refine NJ.step hk h hD (h.m.trans hm (fun _ _ e => e)) (by simp; exact hp) (fun j hj hd => hk.tf _ _ _ _ hm (h.l j hj hd)) (fun _ => hu) (fun b hA q1 q2 q3 => ?_) (fun e => absurd e h3) hAS (fun e => absurd e h1) (fun e => absurd e h5) (fun e => absurd e h4)
 rw [e4]
 exact (hm.block b (lt_of_block q3) (fun hs => by have := hk.lt b hs; omega)).trans q3
theorem NJ.alloc (hk : NJOk S P0 P1 F W0 T z o1 os dl td) (h : NJ S P0 P1 F W0 T z o1 os ls iT iA iS fx fd dl tab td D xs w) (hD : D iA = false) (hAS : iA ≠ iS := by decide) (h1 : iA ∉ ls := by decide) (h2 : iA ≠ iT := by decide) (h5 : iA ∉ fd := by decide) (h6 : iA ∉ fx := by decide) : NJ S P0 P1 F W0 T z o1 os ls iT iA iS fx fd dl tab td (fun j => D j || j == iA) (fun j => if j = iA then .pointer (some ⟨w.heap.size, 0, none⟩) else xs j) (w.alloc (.cells z T (0, 0))) := by
 have hb : Below w.heap.size w (w.alloc (.cells z T (0, 0))) := (Below.refl _ _).alloc (Nat.le_refl _) _
 exact NJ.step hk h hD (h.m.trans (z1b hb) (fun _ _ e => e)) (NJ.pk hk h h2 hb) (fun j hj hd => hk.bf _ _ _ _ (h.l j hj hd) hb) (fun e => absurd e h1) (fun b hA => by rw [hA] at hD; cases hD) (fun _ => ⟨w.heap.size, h.m.size, rfl, z0a _ _⟩) hAS (fun e => absurd e h6) (fun e => absurd e h5) (fun e => absurd e hAS)
theorem NJ.store (hk : NJOk S P0 P1 F W0 T z o1 os dl td) (h : NJ S P0 P1 F W0 T z o1 os ls iT iA iS fx fd dl tab td D xs w) {u : Value} {b : Nat} (hD : D iS = false) (hA : D iA = true) (ho : ∀ k, k ∈ os -> D k = true) (hx : xs iA = .pointer (some ⟨b, 0, none⟩)) (hm : Mod (· = b) w w') (hc : w'.heap[b]? = some (.cells (o1 xs) T (0, 0))) (hAS : iA ≠ iS := by decide) (h1 : iS ∉ ls := by decide) (h2 : iS ≠ iT := by decide) (h5 : iS ∉ fd := by decide) (h6 : iS ∉ fx := by decide) : NJ S P0 P1 F W0 T z o1 os ls iT iA iS fx fd dl tab td (fun j => D j || j == iS) (fun j => if j = iS then u else xs j) w' := by
 obtain ⟨b', q1, q2, q3⟩ := h.a hA
 obtain rfl : b = b' := by rw [hx] at q2; injection q2 with q2; injection q2 with q2; injection q2
 rw [hD] at q3
 simp only [cond_false] at q3
 have e2 : (D iT || iT == iS) = D iT := or_ne (fun e => h2 e.symm)
 refine NJ.step hk h hD (h.m.trans hm (fun i hi e => by have : i = b := e; omega)) ?_ (fun j hj hd => hk.sf _ _ _ _ _ q1 q3 hm (h.l j hj hd)) (fun e => absurd e h1) (fun b' _ _ r2 _ => ?_) (fun e => absurd e.symm hAS) hAS (fun e => absurd e h6) (fun e => absurd e h5) (fun _ => ⟨hA, ho⟩)
 ·rw [e2]
  have := h.p
  cases hd : D iT <;> rw [hd] at this
  ·exact hk.s0 _ _ _ q1 q3 hm this
  ·exact hk.s1 _ _ _ q1 q3 hm this
 ·obtain rfl : b = b' := by rw [hx] at r2; injection r2 with r2; injection r2 with r2; injection r2
  simp only [beq_self_eq_true, Bool.or_true, cond_true]
  exact hc
end
theorem NJOk.calm {W0 : World} {T : TypeId} {z : Array Value} {o : Array Value} {dl : Nat -> List Nat} : NJOk (fun _ => False) (fun _ => True) (fun _ => True) (fun _ _ _ => True) W0 T z (fun _ => o) [] dl (fun _ _ => undef) :=
 ⟨fun _ _ _ _ => trivial, fun _ _ _ _ => trivial, fun _ _ _ _ _ _ => trivial, fun _ _ _ _ _ _ _ => trivial, fun _ _ _ _ _ _ _ => trivial, fun _ _ _ _ _ _ _ _ _ => trivial, fun _ _ _ _ _ _ => trivial, fun _ h => h.elim, fun _ _ _ => rfl, fun _ _ _ _ => rfl⟩
end Go.Burg
namespace Go.Proofs.YtgdmfledhhoedaaGreatDoor.T
set_option maxRecDepth 8000
open Go.ChangeShapes Go.WideShapes Go.ChangeAt Go.RowKit Go.Burg
open Go.Burg.Lk
theorem set6_mod {T : TypeId} {w : World} {c : Nat} {a0 a1 a2 a3 a4 a5 : Value} (b0 b1 b2 b3 b4 b5 : Value) (h : w.heap[c]? = some (.cells #[a0, a1, a2, a3, a4, a5] T (0, 0))) :
 ((((((w.setCell ⟨c, 0, none⟩ b0).setCell ⟨c, 1, none⟩ b1).setCell ⟨c, 2, none⟩ b2).setCell ⟨c, 3, none⟩ b3).setCell ⟨c, 4, none⟩ b4).setCell ⟨c, 5, none⟩ b5).heap[c]? = some (.cells #[b0, b1, b2, b3, b4, b5] T (0, 0)) /\ Mod (· = c) w ((((((w.setCell ⟨c, 0, none⟩ b0).setCell ⟨c, 1, none⟩ b1).setCell ⟨c, 2, none⟩ b2).setCell ⟨c, 3, none⟩ b3).setCell ⟨c, 4, none⟩ b4).setCell ⟨c, 5, none⟩ b5) := by
 refine ⟨?_, ?_⟩
 ·have := heap_set (i := 5) (v := b5) (heap_set (i := 4) (v := b4) (heap_set (i := 3) (v := b3) (heap_set (i := 2) (v := b2) (heap_set (i := 1) (v := b1) (heap_set (i := 0) (v := b0) h)))))
  simpa using this
 have stp : ∀ {A : World} (j : Nat) (v : Value), Mod (· = c) w A -> Mod (· = c) w (A.setCell ⟨c, j, none⟩ v) := fun j v h => Mod.setCell (S := (· = c)) (p := ⟨c, j, none⟩) h (.inl rfl) v
 exact stp _ _ (stp _ _ (stp _ _ (stp _ _ (stp _ _ (stp _ _ (Mod.refl _ _))))))
end Go.Proofs.YtgdmfledhhoedaaGreatDoor.T
namespace Go.Burg
open Go Go.RowKit
end Go.Burg
namespace Go.Proofs.YtgdmfledhhoedaaGreatDoor.O
set_option maxRecDepth 8000
open Go.ChangeShapes Go.WideShapes Go.ChangeAt Go.RowKit Go.Burg
end Go.Proofs.YtgdmfledhhoedaaGreatDoor.O
namespace Go.Proofs.YtgdmfledhhoedaaGreatDoor.T
set_option maxRecDepth 8000
open Go.ChangeShapes Go.WideShapes Go.ChangeAt Go.RowKit Go.Burg
open Go.Burg.Lk
theorem z0k.set_any {P : List (Cel PNd)} {s g s' g' : Int} {i i' : Nat} {q q' : PNd} (h : z0k P s g i q) (h' : z0k P s' g' i' q') (x : PNd) : ∃ j y, z0k (P.set i' ⟨true, x, g'⟩) s g j y := by
 obtain ⟨e, p, h1, h2, h3, h4⟩ := h
 obtain ⟨e', p', h1', h2', h3', h4'⟩ := h'
 by_cases hi : i' = i
 ·subst hi
  rw [h1] at h1'
  cases h1'
  exact ⟨i', x, e, _, List.getElem?_set_self (List.getElem?_eq_some_iff.1 h1).1, rfl, h3'.symm.trans h3, rfl⟩
 ·exact ⟨i, q, e, p, by rw [List.getElem?_set_ne hi]; exact h1, h2, h3, h4⟩
end Go.Proofs.YtgdmfledhhoedaaGreatDoor.T
