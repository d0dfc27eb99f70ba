/- Part 15 of 26. -/
import Derived.Test.YtgdmfledhhoedaaGreatDoorC14
import Derived.Test.YtgdmfledhhoedaaGreatDoorC13
import Derived.Test.YtgdmfledhhoedaaGreatDoorC02
import Derived.Test.YtgdmfledhhoedaaGreatDoorC01
namespace Go.Burg
open Go Go.RowKit
theorem byt_rst (c : ByteArray) (d : Nat) : byt (rst c d) = (byt c).drop d := by
 unfold byt rst
 have e1 : (c.extract d c.size).data = c.data.extract d c.size := by simp
 have e2 : c.size = c.data.toList.length := rfl
 rw [e1, Array.toList_extract, List.extract_eq_take_drop, e2]
 exact List.take_of_length_le (by rw [List.length_drop]; exact Nat.le_refl _)
theorem comL_full : ∀ {l m : List UInt8}, comL l m = m.length -> m <+: l
 | l, [], _ => List.nil_prefix
 | [], y :: m, h => by simp [comL] at h
 | x :: l, y :: m, h => by
  unfold comL at h
  split at h
  ·rename_i e
   subst e
   exact List.cons_prefix_cons.2 ⟨rfl, comL_full (by simpa using h)⟩
  ·simp at h
theorem encL_ne (K : List UInt8) : encL K ≠ [] := by cases K <;> unfold encL <;> (try split) <;> simp
theorem encL_prefix : ∀ {K K' : List UInt8}, encL K <+: encL K' -> K = K'
 | [], [], _ => rfl
 | [], x :: K', h => by
  rw [encL_nil] at h
  by_cases hx : x = 0
  ·subst hx
   rw [encL_zero] at h
   simp [List.cons_prefix_cons] at h
  ·rw [encL_cons _ hx, List.cons_prefix_cons] at h
   exact absurd h.1.symm hx
 | x :: K, [], h => by
  rw [encL_nil] at h
  by_cases hx : x = 0
  ·subst hx
   rw [encL_zero] at h
   simp [List.cons_prefix_cons] at h
  ·rw [encL_cons _ hx, List.cons_prefix_cons] at h
   exact absurd h.1 hx
 | x :: K, y :: K', h => by
  by_cases hx : x = 0
  ·subst hx
   rw [encL_zero] at h
   by_cases hy : y = 0
   ·subst hy
    rw [encL_zero] at h
    simp only [List.cons_prefix_cons, true_and] at h
    rw [encL_prefix h]
   ·rw [encL_cons _ hy, List.cons_prefix_cons] at h
    exact absurd h.1.symm hy
  ·rw [encL_cons _ hx] at h
   by_cases hy : y = 0
   ·subst hy
    rw [encL_zero, List.cons_prefix_cons] at h
    exact absurd h.1 hx
   ·rw [encL_cons _ hy, List.cons_prefix_cons] at h
    obtain ⟨rfl, h⟩ := h
    rw [encL_prefix h]
theorem z2k.prefix {c c' : ByteArray} (h : z2k c) (h' : z2k c') (hp : byt c <+: byt c') : byt c = byt c' := by
 obtain ⟨K, e, _⟩ := h
 obtain ⟨K', e', _⟩ := h'
 rw [e, e'] at hp ⊢
 rw [encL_prefix hp]
abbrev Ents := List (ByteArray × ByteArray)
def Kd.byte (k : Kd) : UInt8 := UInt8.ofNat k.b.toNat
inductive Sub (P : List (Cel PNd)) : Nat -> Int -> Bool -> List UInt8 -> (Nat -> Prop) -> Ents -> Prop
 | leaf {i : Nat} {g : Int} {c v : ByteArray} {pre : List UInt8} (h : z0k P i g i ⟨.leaf c v, false, false⟩) (hp : pre <+: byt c) (hc : z2k c) : Sub P i g false pre (· = i) [(c, v)]
 | node {i : Nat} {g : Int} {k : Nat} {pt : ByteArray} {L : List Kd} {pl : Bool} {pre : List UInt8} {ki : Nat -> Nat} {Ss : Nat -> Nat -> Prop} {Es : Nat -> Ents} (h : z0k P i g i ⟨.z0j k pt L, pl, false⟩)
  (hk : ∀ j kd, L[j]? = some kd -> kd.s = (ki j : Int)) (hsub : ∀ j kd, L[j]? = some kd -> Sub P (ki j) kd.g false (pre ++ byt pt ++ [kd.byte]) (Ss j) (Es j))
  (d1 : ∀ j x, j < L.length -> Ss j x -> x ≠ i) (d2 : ∀ j j' x, j < L.length -> j' < L.length -> Ss j x -> Ss j' x -> j = j')
  (hr : Rise L) (hok : ∀ kd ∈ L, kd.ok) (hl : L.length <= 256) (hn : pl = false -> 2 <= L.length /\ k = kindOf L.length /\ pt.size <= 34) (ha : pl = true -> k = 5 /\ pt = ⟨#[]⟩) :
  Sub P i g pl pre (fun x => x = i \/ ∃ j, j < L.length /\ Ss j x) ((List.range L.length).flatMap Es)
section
variable {P P' : List (Cel PNd)} {i : Nat} {g : Int} {pl : Bool} {pre : List UInt8} {S : Nat -> Prop} {E : Ents}
theorem z0k.same {s g : Int} {i : Nat} {q : PNd} (h : z0k P s g i q) (e : P'[i]? = P[i]?) : z0k P' s g i q := by
 obtain ⟨a, p, b, c⟩ := h
 exact ⟨a, p, e.trans b, c⟩
theorem Sub.frame (h : Sub P i g pl pre S E) (hf : ∀ x, S x -> P'[x]? = P[x]?) : Sub P' i g pl pre S E := by
 induction h with
 | leaf h hp hc => exact .leaf (h.same (hf _ rfl)) hp hc
 | @node i g k pt L pl pre ki Ss Es h hk hsub d1 d2 hr hok hl hn ha ih =>
  exact .node (h.same (hf _ (.inl rfl))) hk (fun j kd hj => ih j kd hj (fun x hx => hf x (.inr ⟨j, (List.getElem?_eq_some_iff.1 hj).1, hx⟩))) d1 d2 hr hok hl hn ha
theorem Sub.mem (h : Sub P i g pl pre S E) : ∀ e ∈ E, pre <+: byt e.1 /\ z2k e.1 := by
 induction h with
 | leaf h hp hc => intro e he; simp at he; subst he; exact ⟨hp, hc⟩
 | @node i g k pt L pl pre ki Ss Es h hk hsub d1 d2 hr hok hl hn ha ih =>
  intro e he
  obtain ⟨j, hj, he⟩ := List.mem_flatMap.1 he
  have hj' : j < L.length := List.mem_range.1 hj
  obtain ⟨h1, h2⟩ := ih j _ (List.getElem?_eq_getElem hj') e he
  exact ⟨(List.prefix_append _ _).trans ((List.prefix_append _ _).trans h1), h2⟩
theorem Sub.ne (h : Sub P i g pl pre S E) (hp : pl = false) : E ≠ [] := by
 induction h with
 | leaf => simp
 | @node i g k pt L pl pre ki Ss Es h hk hsub d1 d2 hr hok hl hn ha ih =>
  have h2 := (hn hp).1
  have h0 : 0 < L.length := by omega
  have := ih 0 _ (List.getElem?_eq_getElem h0) rfl
  intro e
  exact this (List.flatMap_eq_nil_iff.1 e 0 (List.mem_range.2 h0))
theorem Sub.self (h : Sub P i g pl pre S E) : S i := by
 cases h with
 | leaf => rfl
 | node => exact .inl rfl
theorem Sub.live (h : Sub P i g pl pre S E) {x : Nat} (hx : S x) : ∃ gx q, z0k P x gx x q := by
 induction h with
 | leaf h => obtain rfl := hx; exact ⟨_, _, h⟩
 | @node i g k pt L pl pre ki Ss Es h hk hsub d1 d2 hr hok hl hn ha ih =>
  rcases hx with rfl | ⟨j, hj, hx⟩
  ·exact ⟨_, _, h⟩
  ·exact ih j _ (List.getElem?_eq_getElem hj) hx
end
variable {L : List Kd}
theorem next_byte {P : List (Cel PNd)} {k : Nat} {pt : ByteArray} {pl : Bool} {pre : List UInt8} {ki : Nat -> Nat} {Ss : Nat -> Nat -> Prop} {Es : Nat -> Ents}
 (hsub : ∀ j kd, L[j]? = some kd -> Sub P (ki j) kd.g false (pre ++ byt pt ++ [kd.byte]) (Ss j) (Es j)) (hn : pl = false -> 2 <= L.length /\ k = kindOf L.length /\ pt.size <= 34) (ha : pl = true -> k = 5 /\ pt = ⟨#[]⟩) (hpl : pl = true -> pre = [])
 {c : ByteArray} (hc : z2k c) (hp : pre <+: byt c) (hcom : com (rst c pre.length) pt = pt.size) : ∃ x, (byt (rst c pre.length))[pt.size]? = some x /\ pre ++ byt pt ++ [x] <+: byt c := by
 have h1 : byt pt <+: (byt c).drop pre.length := by
  rw [<- byt_rst]
  exact comL_full (by rw [z0z]; exact hcom)
 obtain ⟨r, hr⟩ := hp
 have h2 : (byt c).drop pre.length = r := by rw [<- hr]; simp
 rw [h2] at h1
 obtain ⟨r2, hr2⟩ := h1
 rw [byt_rst, h2, <- hr2]
 cases r2 with
 | cons x r2 =>
  refine ⟨x, ?_, r2, ?_⟩
  ·rw [List.getElem?_append_right (by rw [z0z]; exact Nat.le_refl _), z0z]
   simp
  ·rw [<- hr, <- hr2]; simp
 | nil =>
  exfalso
  have hall : byt c = pre ++ byt pt := by rw [<- hr, <- hr2]; simp
  cases hpe : pl with
  | true =>
   obtain ⟨K, e, _⟩ := hc
   rw [hall, hpl hpe, (ha hpe).2] at e
   exact encL_ne K (by simpa [byt] using e.symm)
  | false =>
   have hL := (hn hpe).1
   have h0 : 0 < L.length := by omega
   have hs := hsub 0 _ (List.getElem?_eq_getElem h0)
   obtain ⟨e, he⟩ := List.exists_mem_of_ne_nil _ (hs.ne rfl)
   obtain ⟨m1, m2⟩ := hs.mem e he
   have hpre : byt c <+: byt e.1 := by rw [hall]; exact (List.prefix_append _ _).trans m1
   have := hc.prefix m2 hpre
   have h3 := m1.length_le
   rw [<- this, hall] at h3
   simp at h3
   omega
theorem findK_at {y : Int} {kk : Kd} (h : z0o L y = some kk) : kk.b = y /\ ∃ j : Nat, L[j]? = some kk := by
 unfold z0o at h
 have h1 := List.find?_some h
 have h2 := List.mem_of_find?_eq_some h
 obtain ⟨j, hj, e⟩ := List.getElem_of_mem h2
 exact ⟨by simpa using h1, j, by rw [List.getElem?_eq_getElem hj, e]⟩
theorem kd_byte {kd : Kd} {x : UInt8} (h : kd.b = (x.toNat : Int)) : kd.byte = x := by unfold Kd.byte; rw [h]; simp
theorem flat_split {α : Type} (Es : Nat -> List α) {j n : Nat} (hj : j < n) : (List.range n).flatMap Es = (List.range j).flatMap Es ++ (Es j ++ (List.range' (j + 1) (n - j - 1)).flatMap Es) := by
 have e : List.range n = List.range j ++ (j :: List.range' (j + 1) (n - j - 1)) := by
  rw [List.range_eq_range', List.range_eq_range']
  have : n = j + (1 + (n - j - 1)) := by omega
  conv => lhs; rw [this]
  rw [<- List.range'_append_1]
  congr 1
  simp
  rw [Nat.add_comm, List.range'_succ]
 rw [e]
 simp
theorem flatMap_eq {α : Type} {f g : Nat -> List α} : ∀ {l : List Nat}, (∀ m ∈ l, f m = g m) -> l.flatMap f = l.flatMap g
 | [], _ => rfl
 | a :: l, h => by
  rw [List.flatMap_cons, List.flatMap_cons, h a (by simp), flatMap_eq (fun m hm => h m (by simp [hm]))]
variable {j : Nat}
theorem flat_others {α : Type} {Es Es' : Nat -> List α} {n : Nat} (h : ∀ m, m ≠ j -> Es' m = Es m) : (List.range j).flatMap Es' = (List.range j).flatMap Es /\ (List.range' (j + 1) (n - j - 1)).flatMap Es' = (List.range' (j + 1) (n - j - 1)).flatMap Es := by
 refine ⟨?_, ?_⟩
 ·refine flatMap_eq (fun m hm => h m ?_)
  have := List.mem_range.1 hm
  omega
 ·refine flatMap_eq (fun m hm => h m ?_)
  have := List.mem_range'_1.1 hm
  omega
theorem rise_ne (hR : Rise L) {i j : Nat} {a b : Kd} (hi : L[i]? = some a) (hj : L[j]? = some b) (h : a.b = b.b) : i = j := by
 obtain ⟨li, rfl⟩ := List.getElem?_eq_some_iff.1 hi
 obtain ⟨lj, rfl⟩ := List.getElem?_eq_some_iff.1 hj
 rcases Nat.lt_trichotomy i j with h1 | h1 | h1
 ·have := List.pairwise_iff_getElem.1 hR i j li lj h1; omega
 ·exact h1
 ·have := List.pairwise_iff_getElem.1 hR j i lj li h1; omega
theorem turnK_at (hR : Rise L) {j : Nat} {kk : Kd} (hj : L[j]? = some kk) (s g : Int) : z1o L kk.b s g = L.set j ⟨kk.b, s, g⟩ := by
 have hl := (List.getElem?_eq_some_iff.1 hj).1
 refine List.ext_getElem? fun m => ?_
 unfold z1o
 rw [List.getElem?_map]
 by_cases h : j = m
 ·subst h
  rw [hj, List.getElem?_set_self hl]
  simp
 ·rw [List.getElem?_set_ne h]
  cases hm : L[m]? with
  | none => rfl
  | some x =>
   have : ¬ x.b = kk.b := fun e => h (rise_ne hR hm hj e).symm
   simp [this]
theorem findK_self (hR : Rise L) {j : Nat} {kk : Kd} (hj : L[j]? = some kk) : z0o L kk.b = some kk := by
 cases h : z0o L kk.b with
 | none =>
  unfold z0o at h
  have := List.find?_eq_none.1 h kk (List.mem_of_getElem? hj)
  simp at this
 | some x =>
  obtain ⟨h1, m, hm⟩ := findK_at h
  have e := rise_ne hR hm hj h1
  subst e
  rw [hj] at hm
  exact hm.symm
section
variable {P P' : List (Cel PNd)} {i : Nat} {g : Int} {k : Nat} {pt : ByteArray} {L : List Kd} {pl : Bool} {pre : List UInt8} {ki : Nat -> Nat} {Ss : Nat -> Nat -> Prop} {Es : Nat -> Ents}
theorem Sub.kid (hk : ∀ j kd, L[j]? = some kd -> kd.s = (ki j : Int)) (hsub : ∀ j kd, L[j]? = some kd -> Sub P (ki j) kd.g false (pre ++ byt pt ++ [kd.byte]) (Ss j) (Es j)) (d1 : ∀ j x, j < L.length -> Ss j x -> x ≠ i) (d2 : ∀ j j' x, j < L.length -> j' < L.length -> Ss j x -> Ss j' x -> j = j')
 (hr : Rise L) (hok : ∀ kd ∈ L, kd.ok) (hl : L.length <= 256) (hn : pl = false -> 2 <= L.length /\ k = kindOf L.length /\ pt.size <= 34) (ha : pl = true -> k = 5 /\ pt = ⟨#[]⟩)
 {j : Nat} {kd : Kd} (hj : L[j]? = some kd) {u' : Nat} {gu' : Int} {Su' : Nat -> Prop} {Eu' : Ents} (hs : Sub P' u' gu' false (pre ++ byt pt ++ [kd.byte]) Su' Eu') (h' : z0k P' i g i ⟨.z0j k pt (L.set j ⟨kd.b, u', gu'⟩), pl, false⟩)
 (hf : ∀ j' x, j' < L.length -> j' ≠ j -> Ss j' x -> P'[x]? = P[x]?) (hd : ∀ x, Su' x -> x ≠ i /\ ∀ j', j' < L.length -> j' ≠ j -> ¬ Ss j' x) (hok' : (⟨kd.b, u', gu'⟩ : Kd).ok) :
 ∃ S', Sub P' i g pl pre S' ((List.range j).flatMap Es ++ (Eu' ++ (List.range' (j + 1) (L.length - j - 1)).flatMap Es)) /\ (∀ x, S' x -> x = i \/ Su' x \/ ∃ j', j' < L.length /\ j' ≠ j /\ Ss j' x) := by
 have hjl := (List.getElem?_eq_some_iff.1 hj).1
 have hlen : (L.set j ⟨kd.b, u', gu'⟩).length = L.length := by simp
 have hbyte : (⟨kd.b, u', gu'⟩ : Kd).byte = kd.byte := rfl
 have node := Sub.node (P := P') (pre := pre) (ki := fun m => if m = j then u' else ki m) (Ss := fun m => if m = j then Su' else Ss m) (Es := fun m => if m = j then Eu' else Es m) h'
  (fun m x hm => by
   by_cases e : m = j
   ·subst e
    rw [List.getElem?_set_self hjl] at hm
    cases hm
    simp
   ·rw [List.getElem?_set_ne (fun e' => e e'.symm)] at hm
    simp only [if_neg e]
    exact hk m x hm)
  (fun m x hm => by
   by_cases e : m = j
   ·subst e
    rw [List.getElem?_set_self hjl] at hm
    cases hm
    simp only [if_pos, hbyte]
    exact hs
   ·rw [List.getElem?_set_ne (fun e' => e e'.symm)] at hm
    simp only [if_neg e]
    exact (hsub m x hm).frame (fun y hy => hf m y (List.getElem?_eq_some_iff.1 hm).1 e hy))
  (fun m x hm hx => by
   rw [hlen] at hm
   by_cases e : m = j
   ·subst e; simp only [if_pos] at hx; exact (hd x hx).1
   ·simp only [if_neg e] at hx; exact d1 m x hm hx)
  (fun m m' x hm hm' hx hx' => by
   rw [hlen] at hm hm'
   by_cases e : m = j
   ·by_cases e' : m' = j
    ·omega
    ·simp only [if_pos e] at hx
     simp only [if_neg e'] at hx'
     exact absurd hx' ((hd x hx).2 m' hm' e')
   ·by_cases e' : m' = j
    ·simp only [if_neg e] at hx
     simp only [if_pos e'] at hx'
     exact absurd hx ((hd x hx').2 m hm e)
    ·simp only [if_neg e] at hx
     simp only [if_neg e'] at hx'
     exact d2 m m' x hm hm' hx hx')
  (by
   have := turnK_at hr hj (u' : Int) gu'
   rw [<- this]
   exact turnK_rise hr _ _ _)
  (fun x hx => by
   rcases List.mem_or_eq_of_mem_set hx with hx | rfl
   ·exact hok x hx
   ·exact hok')
  (by rw [hlen]; exact hl) (by rw [hlen]; exact hn) ha
 refine ⟨fun x => x = i \/ ∃ j', j' < L.length /\ (if j' = j then Su' else Ss j') x, ?_, fun x hx => ?_⟩
 ·have e1 := flat_split (fun m => if m = j then Eu' else Es m) hjl
  obtain ⟨e2, e3⟩ := flat_others (Es := Es) (Es' := fun m => if m = j then Eu' else Es m) (j := j) (n := L.length) (fun m hm => by simp [hm])
  simp only [hlen] at node
  rw [e1, e2, e3] at node
  simpa using node
 ·rcases hx with rfl | ⟨m, hm, hx⟩
  ·exact .inl rfl
  ·by_cases e : m = j
   ·simp only [if_pos e] at hx; exact .inr (.inl hx)
   ·simp only [if_neg e] at hx; exact .inr (.inr ⟨m, hm, e, hx⟩)
end
def Stop (P : List (Cel PNd)) (c : ByteArray) (u : Nat) (gu : Int) (plu : Bool) (preu : List UInt8) (s : SpotP) : Prop :=
 (∃ c' v, z0k P u gu u ⟨.leaf c' v, false, false⟩ /\ plu = false /\ ((c' = c /\ s.what = 1 /\ s.at_ = 0) \/ (c' ≠ c /\ s.what = 4 /\ s.at_ = com (rst c preu.length) (rst c' preu.length)))) \/
 (∃ k pt L, z0k P u gu u ⟨.z0j k pt L, plu, false⟩ /\ ((s.what = 3 /\ com (rst c preu.length) pt < pt.size /\ s.at_ = com (rst c preu.length) pt) \/
  (∃ x, s.what = 2 /\ com (rst c preu.length) pt = pt.size /\ (byt (rst c preu.length))[pt.size]? = some x /\ s.at_ = x.toNat /\ z0o L (x.toNat : Int) = none)))
def LiftS (P : List (Cel PNd)) (i : Nat) (g : Int) (pl : Bool) (pre : List UInt8) (S : Nat -> Prop) (u : Nat) (gu : Int) (plu : Bool) (preu : List UInt8) (Su : Nat -> Prop) (E1 E2 : Ents) : Prop :=
 ∀ P' Su' Eu', Sub P' u gu plu preu Su' Eu' -> (∀ x, S x -> ¬ Su x -> P'[x]? = P[x]?) -> (∀ x, Su' x -> Su x \/ ¬ S x) -> ∃ S', Sub P' i g pl pre S' (E1 ++ (Eu' ++ E2)) /\ ∀ x, S' x -> (S x /\ ¬ Su x) \/ Su' x
def LiftT (P : List (Cel PNd)) (i : Nat) (g : Int) (pl : Bool) (pre : List UInt8) (S : Nat -> Prop) (p : Nat) (gp : Int) (kp : Nat) (ptp : ByteArray) (Lp : List Kd) (plp : Bool) (kk : Kd) (preu : List UInt8) (Su : Nat -> Prop) (E1 E2 : Ents) : Prop :=
 ∀ (P' : List (Cel PNd)) (u' : Nat) (gu' : Int) (Su' : Nat -> Prop) (Eu' : Ents), Sub P' u' gu' false preu Su' Eu' -> z0k P' p gp p ⟨.z0j kp ptp (z1o Lp kk.b u' gu'), plp, false⟩ -> (∀ x, S x -> ¬ Su x -> x ≠ p -> P'[x]? = P[x]?) -> (∀ x, Su' x -> Su x \/ ¬ S x) -> (⟨kk.b, u', gu'⟩ : Kd).ok ->
  ∃ S', Sub P' i g pl pre S' (E1 ++ (Eu' ++ E2)) /\ ∀ x, S' x -> (S x /\ ¬ Su x) \/ Su' x
def Par (P : List (Cel PNd)) (i : Nat) (g : Int) (pl : Bool) (pre : List UInt8) (S : Nat -> Prop) (u : Nat) (gu : Int) (preu : List UInt8) (Su : Nat -> Prop) (E1 E2 : Ents) (W1 : List (Int × Int)) : Prop :=
 ∃ (p : Nat) (gp : Int) (kp : Nat) (ptp : ByteArray) (Lp : List Kd) (plp : Bool) (jp : Nat) (kk : Kd) (W2 : List (Int × Int)), W1 = W2 ++ [((p : Int), gp)] /\ z0k P p gp p ⟨.z0j kp ptp Lp, plp, false⟩ /\ Lp[jp]? = some kk /\ kk.s = u /\ kk.g = gu /\
  (∀ (m : Nat) (x : Kd), m < jp -> Lp[m]? = some x -> ¬ (x.s = (u : Int) /\ x.g = gu)) /\ Rise Lp /\ kk.ok /\ S p /\ ¬ Su p /\ (plp = false -> 2 <= Lp.length) /\ LiftT P i g pl pre S p gp kp ptp Lp plp kk preu Su E1 E2
theorem set_self {kd : Kd} (h : L[j]? = some kd) {a b : Int} (ha : kd.s = a) (hb : kd.g = b) : L.set j ⟨kd.b, a, b⟩ = L := by
 subst ha hb
 obtain ⟨hl, rfl⟩ := List.getElem?_eq_some_iff.1 h
 exact List.set_getElem_self hl
theorem Sub.down {P : List (Cel PNd)} {i : Nat} {g : Int} {pl : Bool} {pre : List UInt8} {S : Nat -> Prop} {E : Ents} (h : Sub P i g pl pre S E) {c : ByteArray} (hc : z2k c) : ∀ (_ : pre <+: byt c) (_ : pl = true -> pre = []) (W : List (Int × Int)),
 ∃ (s : SpotP) (u : Nat) (gu : Int) (plu : Bool) (preu : List UInt8) (Su : Nat -> Prop) (Eu E1 E2 : Ents) (W1 : List (Int × Int)), SeekW P c ((i : Int), g) pre.length W s /\ Sub P u gu plu preu Su Eu /\ preu <+: byt c /\ (plu = true -> preu = []) /\ E = E1 ++ (Eu ++ E2) /\ (∀ x, Su x -> S x) /\
  s.way = W ++ (W1 ++ [((u : Int), gu)]) /\ s.depth = preu.length /\ Stop P c u gu plu preu s /\ LiftS P i g pl pre S u gu plu preu Su E1 E2 /\
  ((W1 = [] /\ u = i /\ gu = g /\ plu = pl /\ preu = pre /\ E1 = [] /\ E2 = []) \/ Par P i g pl pre S u gu preu Su E1 E2 W1) := by
 induction h with
 | @leaf i g c' v pre h hp' hc' =>
  intro hp _ W
  have h1 := hp.length_le
  have h2 := hp'.length_le
  rw [z0z] at h1 h2
  refine ⟨_, i, g, false, pre, _, _, [], [], [], SeekW.leaf (r := ((i : Int), g)) h rfl h1 h2, .leaf h hp' hc', hp, (fun e => by cases e), by simp, fun x hx => hx, by simp, rfl, .inl ⟨c', v, h, rfl, ?_⟩, ?_, .inl ⟨rfl, rfl, rfl, rfl, rfl, rfl, rfl⟩⟩
  ·by_cases e : c' = c
   ·exact .inl ⟨e, by simp [e], by simp [e]⟩
   ·exact .inr ⟨e, by simp [e], by simp [e]⟩
  ·intro P' Su' Eu' hs _ _
   exact ⟨Su', by simpa using hs, fun x hx => .inr hx⟩
 | @node i g k pt L pl pre ki Ss Es h hk hsub d1 d2 hr hok hl hn ha ih =>
  intro hp hpl W
  have hd := hp.length_le
  rw [z0z] at hd
  have me := Sub.node h hk hsub d1 d2 hr hok hl hn ha
  have triv : LiftS P i g pl pre (fun x => x = i \/ ∃ j, j < L.length /\ Ss j x) i g pl pre (fun x => x = i \/ ∃ j, j < L.length /\ Ss j x) [] [] := fun P' Su' Eu' hs _ _ => ⟨Su', by simpa using hs, fun x hx => .inr hx⟩
  by_cases hcom : com (rst c pre.length) pt < pt.size
  ·exact ⟨_, i, g, pl, pre, _, _, [], [], [], SeekW.split (r := ((i : Int), g)) h rfl hd hcom, me, hp, hpl, by simp, fun x hx => hx, by simp, rfl, .inr ⟨k, pt, L, h, .inl ⟨rfl, hcom, rfl⟩⟩, triv, .inl ⟨rfl, rfl, rfl, rfl, rfl, rfl, rfl⟩⟩
  ·have hcom : com (rst c pre.length) pt = pt.size := by have := com_le2 (rst c pre.length) pt; omega
   obtain ⟨x, hx, hpx⟩ := next_byte hsub hn ha hpl hc hp hcom
   cases hf : z0o L (x.toNat : Int) with
   | none => exact ⟨_, i, g, pl, pre, _, _, [], [], [], SeekW.bare (r := ((i : Int), g)) h rfl hd hcom hx hf, me, hp, hpl, by simp, fun x hx => hx, by simp, rfl, .inr ⟨k, pt, L, h, .inr ⟨x, rfl, hcom, hx, rfl, hf⟩⟩, triv, .inl ⟨rfl, rfl, rfl, rfl, rfl, rfl, rfl⟩⟩
   | some kd =>
    obtain ⟨hb, j, hj⟩ := findK_at hf
    have hjl := (List.getElem?_eq_some_iff.1 hj).1
    have e : kd.byte = x := kd_byte hb
    have hks := hk j kd hj
    obtain ⟨s, u, gu, plu, preu, Su, Eu, E1, E2, W1, hs, hsu, hpu, hplu, hE, hin, hway, hdep, hstop, hLS, hor⟩ := ih j kd hj (by rw [e]; exact hpx) (fun h => by cases h) (W ++ [((i : Int), g)])
    have el : (pre ++ byt pt ++ [kd.byte]).length = pre.length + pt.size + 1 := by simp [z0z]; omega
    rw [el] at hs
    have hni : ¬ Su i := fun hx => d1 j i hjl (hin i hx) rfl
    have hsplit := flat_split Es hjl
    have hkok := hok kd (List.mem_of_getElem? hj)
    have upS : ∀ P' Sk' Ek' (Sv : Nat -> Prop), Sub P' (ki j) kd.g false (pre ++ byt pt ++ [kd.byte]) Sk' Ek' -> (∀ x, Sk' x -> (Ss j x /\ ¬ Su x) \/ Sv x) -> (∀ x, Sv x -> Su x \/ ¬ (x = i \/ ∃ j, j < L.length /\ Ss j x)) -> P'[i]? = P[i]? -> (∀ j' x, j' < L.length -> j' ≠ j -> Ss j' x -> P'[x]? = P[x]?) ->
     ∃ S', Sub P' i g pl pre S' ((List.range j).flatMap Es ++ (Ek' ++ (List.range' (j + 1) (L.length - j - 1)).flatMap Es)) /\ ∀ x, S' x -> ((x = i \/ ∃ j, j < L.length /\ Ss j x) /\ ¬ Su x) \/ Sv x := by
     intro P' Sk' Ek' Sv hsk h1 h2 hi ho
     have hset := set_self hj hks rfl
     obtain ⟨S', a, b⟩ := Sub.kid (P := P) (P' := P') (Es := Es) hk hsub d1 d2 hr hok hl hn ha hj hsk (by rw [hset]; exact h.same hi) ho (fun x hx => by
      rcases h1 x hx with ⟨h3, h4⟩ | h3
      ·exact ⟨d1 j x hjl h3, fun j' hj' hne h5 => hne (d2 j' j x hj' hjl h5 h3)⟩
      ·rcases h2 x h3 with h4 | h4
       ·exact ⟨d1 j x hjl (hin x h4), fun j' hj' hne h5 => hne (d2 j' j x hj' hjl h5 (hin x h4))⟩
       ·exact ⟨fun e => h4 (.inl e), fun j' hj' hne h5 => h4 (.inr ⟨j', hj', h5⟩)⟩) (by rw [<- hks]; exact hkok)
     refine ⟨S', a, fun x hx => ?_⟩
     rcases b x hx with rfl | hx | ⟨j', hj', hne, hx⟩
     ·exact .inl ⟨.inl rfl, hni⟩
     ·rcases h1 x hx with ⟨h3, h4⟩ | h3
      ·exact .inl ⟨.inr ⟨j, hjl, h3⟩, h4⟩
      ·exact .inr h3
     ·exact .inl ⟨.inr ⟨j', hj', hx⟩, fun h3 => hne (d2 j' j x hj' hjl hx (hin x h3))⟩
    refine ⟨s, u, gu, plu, preu, Su, Eu, (List.range j).flatMap Es ++ E1, E2 ++ (List.range' (j + 1) (L.length - j - 1)).flatMap Es, ((i : Int), g) :: W1, SeekW.down (r := ((i : Int), g)) h rfl hd hcom hx hf (by rw [hks]; exact hs), hsu, hpu, hplu, ?_, fun x hx => .inr ⟨j, hjl, hin x hx⟩, by rw [hway]; simp, hdep, hstop, ?_, .inr ?_⟩
    ·rw [hsplit, hE]; simp
    ·intro P' Su' Eu' hsu' hfr hdis
     obtain ⟨Sk', a, b⟩ := hLS P' Su' Eu' hsu' (fun x hx hn => hfr x (.inr ⟨j, hjl, hx⟩) hn) (fun x hx => by
      rcases hdis x hx with h3 | h3
      ·exact .inl h3
      ·exact .inr fun h4 => h3 (.inr ⟨j, hjl, h4⟩))
     obtain ⟨S', a', b'⟩ := upS P' Sk' _ Su' a b hdis (hfr i (.inl rfl) hni) (fun j' x hj' hne hx => hfr x (.inr ⟨j', hj', hx⟩) (fun h3 => hne (d2 j' j x hj' hjl hx (hin x h3))))
     exact ⟨S', by simpa using a', b'⟩
    ·rcases hor with ⟨rfl, rfl, rfl, rfl, rfl, rfl, rfl⟩ | ⟨p, gp, kp, ptp, Lp, plp, jp, kk, W2, hW, hlp, hjp, hkks, hkkg, hkn, hRp, hkk, hSp, hnp, hl2, hLT⟩
     ·refine ⟨i, g, k, pt, L, pl, j, kd, [], rfl, h, hj, hks, rfl, fun m y hm hy => ?_, hr, hkok, .inl rfl, hni, fun e => (hn e).1, ?_⟩
      ·rintro ⟨h3, _⟩
       have hml := (List.getElem?_eq_some_iff.1 hy).1
       have h4 := hk m y hy
       have h5 : ki m = ki j := by omega
       have h6 := (hsub m y hy).self
       have h7 := (hsub j kd hj).self
       rw [h5] at h6
       have := d2 m j (ki j) hml hjl h6 h7
       omega
      ·intro P' u' gu' Su' Eu' hsu' hlive hfr hdis hok'
       obtain ⟨S', a, b⟩ := Sub.kid (P := P) (P' := P') (Es := Es) hk hsub d1 d2 hr hok hl hn ha hj hsu' (by rw [<- turnK_at hr hj]; exact hlive) (fun j' x hj' hne hx => hfr x (.inr ⟨j', hj', hx⟩) (fun h3 => hne (d2 j' j x hj' hjl hx (hin x h3))) (d1 j' x hj' hx)) (fun x hx => by
        rcases hdis x hx with h4 | h4
        ·exact ⟨d1 j x hjl (hin x h4), fun j' hj' hne h5 => hne (d2 j' j x hj' hjl h5 (hin x h4))⟩
        ·exact ⟨fun e => h4 (.inl e), fun j' hj' hne h5 => h4 (.inr ⟨j', hj', h5⟩)⟩) hok'
       refine ⟨S', by simpa using a, fun x hx => ?_⟩
       rcases b x hx with rfl | hx | ⟨j', hj', hne, hx⟩
       ·exact .inl ⟨.inl rfl, hni⟩
       ·exact .inr hx
       ·exact .inl ⟨.inr ⟨j', hj', hx⟩, fun h3 => hne (d2 j' j x hj' hjl hx (hin x h3))⟩
     ·refine ⟨p, gp, kp, ptp, Lp, plp, jp, kk, ((i : Int), g) :: W2, by rw [hW]; simp, hlp, hjp, hkks, hkkg, hkn, hRp, hkk, .inr ⟨j, hjl, hSp⟩, hnp, hl2, ?_⟩
      intro P' u' gu' Su' Eu' hsu' hlive hfr hdis hok'
      obtain ⟨Sk', a, b⟩ := hLT P' u' gu' Su' Eu' hsu' hlive (fun x hx hn hp => hfr x (.inr ⟨j, hjl, hx⟩) hn hp) (fun x hx => by
       rcases hdis x hx with h3 | h3
       ·exact .inl h3
       ·exact .inr fun h4 => h3 (.inr ⟨j, hjl, h4⟩)) hok'
      have hip : i ≠ p := fun e' => d1 j p hjl hSp e'.symm
      obtain ⟨S', a', b'⟩ := upS P' Sk' _ Su' a b hdis (hfr i (.inl rfl) hni hip) (fun j' x hj' hne hx => hfr x (.inr ⟨j', hj', hx⟩) (fun h3 => hne (d2 j' j x hj' hjl hx (hin x h3))) (fun e' => by subst e'; exact hne (d2 j' j x hj' hjl hx hSp)))
      exact ⟨S', by simpa using a', b'⟩
theorem insK_get {k : Kd} (m : Nat) : (insK L k)[m]? = if m < idx L k.b then L[m]? else if m = idx L k.b then some k else L[m - 1]? := by
 have hi := (idx_spec L k.b).1
 rw [insK_eq]
 by_cases h1 : m < idx L k.b
 ·rw [if_pos h1, List.getElem?_append_left (by simp; omega), List.getElem?_take_of_lt h1]
 ·rw [if_neg h1, List.getElem?_append_right (by simp; omega)]
  have e : (L.take (idx L k.b)).length = idx L k.b := by simp; omega
  rw [e]
  by_cases h2 : m = idx L k.b
  ·rw [if_pos h2, h2]; simp
  ·rw [if_neg h2]
   have h3 : m - idx L k.b = (m - 1 - idx L k.b) + 1 := by omega
   rw [h3, List.getElem?_cons_succ, List.getElem?_drop]
   congr 1
   omega
def ins1 {α : Type} (f : Nat -> α) (p : Nat) (a : α) (m : Nat) : α := if m < p then f m else if m = p then a else f (m - 1)
theorem range_up : ∀ (n p : Nat), List.range' (p + 1) n = (List.range' p n).map (· + 1)
 | 0, _ => rfl
 | n + 1, p => by rw [List.range'_succ, List.range'_succ, List.map_cons, range_up n (p + 1)]
theorem flat_ins (Es : Nat -> Ents) (En : Ents) {p n : Nat} (hp : p <= n) : ((List.range (n + 1)).flatMap (ins1 Es p En)).Perm (En ++ (List.range n).flatMap Es) := by
 have e1 := flat_split (ins1 Es p En) (show p < n + 1 by omega)
 have h1 : (List.range p).flatMap (ins1 Es p En) = (List.range p).flatMap Es := flatMap_eq fun m hm => by
  have := List.mem_range.1 hm
  simp [ins1, this]
 have h2 : ins1 Es p En p = En := by simp [ins1]
 have h3 : (List.range' (p + 1) (n + 1 - p - 1)).flatMap (ins1 Es p En) = (List.range' p (n - p)).flatMap Es := by
  have e : List.range' (p + 1) (n + 1 - p - 1) = (List.range' p (n - p)).map (· + 1) := by
   rw [show n + 1 - p - 1 = n - p by omega]
   exact range_up _ _
  rw [e, List.flatMap_map]
  refine flatMap_eq fun m hm => ?_
  have := (List.mem_range'_1.1 hm).1
  unfold ins1
  rw [if_neg (by omega), if_neg (by omega)]
  simp
 have h4 : (List.range n).flatMap Es = (List.range p).flatMap Es ++ (List.range' p (n - p)).flatMap Es := by
  rw [List.range_eq_range', List.range_eq_range']
  conv => lhs; rw [show n = p + (n - p) by omega]
  rw [<- List.range'_append_1]
  simp
 rw [e1, h1, h2, h3, h4]
 rw [<- List.append_assoc, <- List.append_assoc]
 exact (List.perm_append_comm).append_right _
section
variable {P P' : List (Cel PNd)} {i u : Nat} {g gu : Int} {k k' : Nat} {pt : ByteArray} {L : List Kd} {pl : Bool} {pre : List UInt8} {ki : Nat -> Nat} {Ss : Nat -> Nat -> Prop} {Es : Nat -> Ents}
theorem Sub.more (hk : ∀ j kd, L[j]? = some kd -> kd.s = (ki j : Int)) (hsub : ∀ j kd, L[j]? = some kd -> Sub P (ki j) kd.g false (pre ++ byt pt ++ [kd.byte]) (Ss j) (Es j)) (d2 : ∀ j j' x, j < L.length -> j' < L.length -> Ss j x -> Ss j' x -> j = j')
 (hr : Rise L) (hok : ∀ kd ∈ L, kd.ok) {n : Nat} {gn x : Int} {Sn : Nat -> Prop} {En : Ents} (hs : Sub P' n gn false (pre ++ byt pt ++ [(⟨x, n, gn⟩ : Kd).byte]) Sn En) (h' : z0k P' u gu u ⟨.z0j k' pt (insK L ⟨x, n, gn⟩), pl, false⟩) (hf : z0o L x = none)
 (hfr : ∀ j y, j < L.length -> Ss j y -> P'[y]? = P[y]?) (d1 : ∀ j y, j < L.length -> Ss j y -> y ≠ u) (hd : ∀ y, Sn y -> y ≠ u /\ ∀ j, j < L.length -> ¬ Ss j y) (hokn : (⟨x, n, gn⟩ : Kd).ok) (hl : L.length + 1 <= 256) (hn : pl = false -> 2 <= L.length + 1 /\ k' = kindOf (L.length + 1) /\ pt.size <= 34) (ha : pl = true -> k' = 5 /\ pt = ⟨#[]⟩) :
 ∃ S' E', Sub P' u gu pl pre S' E' /\ E'.Perm (En ++ (List.range L.length).flatMap Es) /\ ∀ y, S' y -> y = u \/ Sn y \/ ∃ j, j < L.length /\ Ss j y := by
 have hi := (idx_spec L x).1
 have hlen : (insK L ⟨x, n, gn⟩).length = L.length + 1 := z2u _ _
 generalize hp : idx L x = p at *
 have get : ∀ m kd, (insK L ⟨x, n, gn⟩)[m]? = some kd -> (m < p /\ L[m]? = some kd) \/ (m = p /\ kd = ⟨x, n, gn⟩) \/ (p < m /\ L[m - 1]? = some kd) := by
  intro m kd h
  rw [insK_get, hp] at h
  by_cases h1 : m < p
  ·rw [if_pos h1] at h; exact .inl ⟨h1, h⟩
  ·rw [if_neg h1] at h
   by_cases h2 : m = p
   ·rw [if_pos h2] at h; exact .inr (.inl ⟨h2, (Option.some.inj h).symm⟩)
   ·rw [if_neg h2] at h; exact .inr (.inr ⟨by omega, h⟩)
 have ix : ∀ {α : Type} (f : Nat -> α) (a : α) (m : Nat), m < L.length + 1 -> (m < p /\ ins1 f p a m = f m) \/ (m = p /\ ins1 f p a m = a) \/ (p < m /\ m - 1 < L.length /\ ins1 f p a m = f (m - 1)) := by
  intro α f a m hm
  unfold ins1
  by_cases h1 : m < p
  ·exact .inl ⟨h1, if_pos h1⟩
  ·by_cases h2 : m = p
   ·exact .inr (.inl ⟨h2, by rw [if_neg h1, if_pos h2]⟩)
   ·exact .inr (.inr ⟨by omega, by omega, by rw [if_neg h1, if_neg h2]⟩)
 have node := Sub.node (P := P') (pre := pre) (ki := ins1 ki p n) (Ss := ins1 Ss p Sn) (Es := ins1 Es p En) h'
  (fun m kd hm => by
   have hml := (List.getElem?_eq_some_iff.1 hm).1
   rw [hlen] at hml
   rcases get m kd hm with ⟨h1, h2⟩ | ⟨rfl, rfl⟩ | ⟨h1, h2⟩
   ·unfold ins1; rw [if_pos h1]; exact hk m kd h2
   ·unfold ins1; simp
   ·unfold ins1; rw [if_neg (by omega), if_neg (by omega)]; exact hk _ kd h2)
  (fun m kd hm => by
   rcases get m kd hm with ⟨h1, h2⟩ | ⟨rfl, rfl⟩ | ⟨h1, h2⟩
   ·unfold ins1; rw [if_pos h1, if_pos h1, if_pos h1]
    exact (hsub m kd h2).frame (fun y hy => hfr m y (List.getElem?_eq_some_iff.1 h2).1 hy)
   ·unfold ins1; simp only [Nat.lt_irrefl, if_false, if_true]; exact hs
   ·unfold ins1
    simp only [if_neg (show ¬ m < p by omega), if_neg (show ¬ m = p by omega)]
    exact (hsub _ kd h2).frame (fun y hy => hfr _ y (List.getElem?_eq_some_iff.1 h2).1 hy))
  (fun m y hm hy => by
   rw [hlen] at hm
   rcases ix Ss Sn m hm with ⟨h1, e⟩ | ⟨h1, e⟩ | ⟨h1, h2, e⟩ <;> rw [e] at hy
   ·exact d1 m y (by omega) hy
   ·exact (hd y hy).1
   ·exact d1 _ y h2 hy)
  (fun m m' y hm hm' hy hy' => by
   rw [hlen] at hm hm'
   rcases ix Ss Sn m hm with ⟨h1, e⟩ | ⟨h1, e⟩ | ⟨h1, h2, e⟩ <;> rw [e] at hy <;> rcases ix Ss Sn m' hm' with ⟨h1', e'⟩ | ⟨h1', e'⟩ | ⟨h1', h2', e'⟩ <;> rw [e'] at hy'
   ·exact d2 m m' y (by omega) (by omega) hy hy'
   ·exact absurd hy ((hd y hy').2 m (by omega))
   ·have := d2 m (m' - 1) y (by omega) h2' hy hy'; omega
   ·exact absurd hy' ((hd y hy).2 m' (by omega))
   ·omega
   ·exact absurd hy' ((hd y hy).2 _ h2')
   ·have := d2 (m - 1) m' y h2 (by omega) hy hy'; omega
   ·exact absurd hy ((hd y hy').2 _ h2)
   ·have := d2 (m - 1) (m' - 1) y h2 h2' hy hy'; omega)
  (insK_rise hr (k := ⟨x, n, gn⟩) hf) (fun kd hkd => by
   obtain ⟨m, hm, e⟩ := List.getElem_of_mem hkd
   rcases get m kd (by rw [List.getElem?_eq_getElem hm, e]) with ⟨_, h2⟩ | ⟨_, rfl⟩ | ⟨_, h2⟩
   ·exact hok kd (List.mem_of_getElem? h2)
   ·exact hokn
   ·exact hok kd (List.mem_of_getElem? h2)) (by rw [hlen]; exact hl) (by rw [hlen]; exact hn) ha
 refine ⟨_, _, node, ?_, fun y hy => ?_⟩
 ·rw [hlen]; exact flat_ins Es En hi
 ·rcases hy with rfl | ⟨m, hm, hy⟩
  ·exact .inl rfl
  ·rw [hlen] at hm
   rcases ix Ss Sn m hm with ⟨h1, e⟩ | ⟨h1, e⟩ | ⟨h1, h2, e⟩ <;> rw [e] at hy
   ·exact .inr (.inr ⟨m, by omega, hy⟩)
   ·exact .inr (.inl hy)
   ·exact .inr (.inr ⟨_, h2, hy⟩)
end
end Go.Burg
namespace Go
section
variable {P : Program} {ops : Array Oper} {o : Oper} {a : Act}
theorem wpList_field_run {rest : List Oper} {Q : Exit -> Act -> World -> Prop} {w : World} (hg : o.guard = none) (x : Operand) (T : TypeId) (i : Nat) (hop : o.op = .field T x i) (v v' : Value)
 (hx : a.eval x = v) (hrun : (Instr.field T v i).run P w = .ok v' w) (hK : wpList P ops Q rest (a.put o.dst v') w) : wpList P ops Q (o :: rest) a w := by
 refine wpList_plain hg fun K' hK' => ?_
 unfold Oper.wp
 simp [execOp, hop, hx, hrun, Result.andThen]
 exact hK' _ _ hK
end
end Go
namespace Go.Proofs.YtgdmfledhhoedaaGreatDoor.T
set_option maxRecDepth 8000
open Go.ChangeShapes Go.WideShapes Go.ChangeAt Go.RowKit Go.Burg
open Go.Burg.Lk
end Go.Proofs.YtgdmfledhhoedaaGreatDoor.T
namespace Go.Burg
open Go Go.RowKit
structure RJ (S : Nat -> Prop) (P0 P1 : World -> Prop) (F : World -> Value -> Prop) (W0 : World) (T : TypeId) (z : Array Value) (o1 : Value -> Array Value) (hasL : Bool) (iL iT iA iS : Nat) (fx fd : List Nat) (tab : Nat -> Value) (td : Nat -> Value -> Value) (D : Nat -> Bool) (xs : Nat -> Value) (w : World) : Prop where
 m : Mod S W0 w
 p : cond (D iT) (P1 w) (P0 w)
 l : D iL = true -> F w (xs iL)
 a : D iA = true -> ∃ u, W0.heap.size <= u /\ xs iA = .pointer (some ⟨u, 0, none⟩) /\ w.heap[u]? = some (.cells (cond (D iS) (o1 (xs iL)) z) T (0, 0))
 v : ∀ j, D j = true -> j ∈ fx -> xs j = tab j
 e : ∀ j, D j = true -> j ∈ fd -> D iL = true /\ xs j = td j (xs iL)
 s : D iS = true -> D iA = true /\ (hasL = true -> D iL = true)
structure RJOk (S : Nat -> Prop) (P0 P1 : World -> Prop) (F : World -> Value -> Prop) (W0 : World) (T : TypeId) (z : Array Value) : Prop where
 b0 : ∀ w w', P0 w -> Below w.heap.size w w' -> P0 w'
 b1 : ∀ w w', P1 w -> Below w.heap.size w w' -> P1 w'
 bf : ∀ w w' v, F w v -> Below w.heap.size w w' -> F w' v
 s0 : ∀ w w' u, W0.heap.size <= u -> w.heap[u]? = some (.cells z T (0, 0)) -> Mod (· = u) w w' -> P0 w -> P0 w'
 s1 : ∀ w w' u, W0.heap.size <= u -> w.heap[u]? = some (.cells z T (0, 0)) -> Mod (· = u) w w' -> P1 w -> P1 w'
 sf : ∀ w w' u v, W0.heap.size <= u -> w.heap[u]? = some (.cells z T (0, 0)) -> Mod (· = u) w w' -> F w v -> F w' v
 tf : ∀ w w' v, Mod S w w' -> F w v -> F w' v
 lt : ∀ k, S k -> k < W0.heap.size
section
variable {S : Nat -> Prop} {P0 P1 : World -> Prop} {F : World -> Value -> Prop} {W0 w w' : World} {T : TypeId} {z : Array Value} {o1 : Value -> Array Value} {hasL : Bool} {iL iT iA iS : Nat} {fx fd : List Nat} {tab : Nat -> Value} {td : Nat -> Value -> Value} {D : Nat -> Bool} {xs : Nat -> Value}
theorem RJ.start (h : P0 W0.drew) : RJ S P0 P1 F W0 T z o1 hasL iL iT iA iS fx fd tab td (fun _ => false) (fun _ => undef) W0.drew :=
 ⟨(Mod.refl _ _).drew, h, fun h => (by cases h), fun h => (by cases h), fun j h => (by cases h), fun j h => (by cases h), fun h => (by cases h)⟩
theorem RJ.calm (hk : RJOk S P0 P1 F W0 T z) (h : RJ S P0 P1 F W0 T z o1 hasL iL iT iA iS fx fd tab td D xs w) {i : Nat} {u : Value} (hb : Below w.heap.size w w') (h1 : i ≠ iL := by decide) (h2 : i ≠ iT := by decide) (h3 : i ≠ iA := by decide) (h4 : i ≠ iS := by decide) (h5 : i ∉ fd := by decide) (hu : i ∈ fx -> u = tab i := by intro h; cases h) : RJ S P0 P1 F W0 T z o1 hasL iL iT iA iS fx fd tab td (fun j => D j || j == i) (fun j => if j = i then u else xs j) w' := by
 have n1 : ¬ iL = i := fun e => h1 e.symm
 have n2 : ¬ iT = i := fun e => h2 e.symm
 have n3 : ¬ iA = i := fun e => h3 e.symm
 have n4 : ¬ iS = i := fun e => h4 e.symm
 have e1 : (D iL || iL == i) = D iL := by simp [n1]
 have e2 : (D iT || iT == i) = D iT := by simp [n2]
 have e3 : (D iA || iA == i) = D iA := by simp [n3]
 have e4 : (D iS || iS == i) = D iS := by simp [n4]
 refine ⟨h.m.trans (z1b hb) (fun _ _ e => e), ?_, fun e => ?_, fun e => ?_, fun j hj hr => ?_, fun j hj hr => ?_, fun e => ?_⟩
 ·simp only [e2]
  have := h.p
  cases hd : D iT <;> rw [hd] at this
  ·exact hk.b0 _ _ this hb
  ·exact hk.b1 _ _ this hb
 ·simp only [if_neg n1]
  exact hk.bf _ _ _ (h.l (by rwa [e1] at e)) hb
 ·obtain ⟨b, q1, q2, q3⟩ := h.a (by rwa [e3] at e)
  simp only [e4, if_neg n1, if_neg n3]
  exact ⟨b, q1, q2, (hb.block b (lt_of_block q3)).trans q3⟩
 ·by_cases e : j = i
  ·subst e; simp only [if_pos]; exact hu hr
  ·simp only [if_neg e]; exact h.v j (by simpa [e] using hj) hr
 ·have e : ¬ j = i := fun e => h5 (e ▸ hr)
  obtain ⟨a, b⟩ := h.e j (by simpa [e] using hj) hr
  simp only [if_neg e, if_neg n1, e1]
  exact ⟨a, b⟩
 ·rw [e1, e3]; exact h.s (by rwa [e4] at e)
theorem RJ.dep (h : RJ S P0 P1 F W0 T z o1 hasL iL iT iA iS fx fd tab td D xs w) {i : Nat} {u : Value} (hL : D iL = true) (hu : u = td i (xs iL)) (h1 : i ≠ iL := by decide) (h2 : i ≠ iT := by decide) (h3 : i ≠ iA := by decide) (h4 : i ≠ iS := by decide) (h5 : i ∉ fx := by decide) : RJ S P0 P1 F W0 T z o1 hasL iL iT iA iS fx fd tab td (fun j => D j || j == i) (fun j => if j = i then u else xs j) w := by
 have n1 : ¬ iL = i := fun e => h1 e.symm
 have n2 : ¬ iT = i := fun e => h2 e.symm
 have n3 : ¬ iA = i := fun e => h3 e.symm
 have n4 : ¬ iS = i := fun e => h4 e.symm
 have e1 : (D iL || iL == i) = D iL := by simp [n1]
 have e2 : (D iT || iT == i) = D iT := by simp [n2]
 have e3 : (D iA || iA == i) = D iA := by simp [n3]
 have e4 : (D iS || iS == i) = D iS := by simp [n4]
 refine ⟨h.m, by simp only [e2]; exact h.p, fun e => ?_, fun e => ?_, fun j hj hr => ?_, fun j hj hr => ?_, fun e => ?_⟩
 ·simp only [if_neg n1]; exact h.l hL
 ·obtain ⟨b, q1, q2, q3⟩ := h.a (by rwa [e3] at e)
  simp only [e4, if_neg n1, if_neg n3]
  exact ⟨b, q1, q2, q3⟩
 ·have e : ¬ j = i := fun e => h5 (e ▸ hr)
  simp only [if_neg e]; exact h.v j (by simpa [e] using hj) hr
 ·by_cases e : j = i
  ·subst e; simp only [if_pos, if_neg n1, e1]; exact ⟨hL, hu⟩
  ·obtain ⟨a, b⟩ := h.e j (by simpa [e] using hj) hr
   simp only [if_neg e, if_neg n1, e1]
   exact ⟨a, b⟩
 ·rw [e1, e3]; exact h.s (by rwa [e4] at e)
theorem RJ.call (hk : RJOk S P0 P1 F W0 T z) (h : RJ S P0 P1 F W0 T z o1 hasL iL iT iA iS fx fd tab td D xs w) (hh : hasL = true \/ ∀ a b, o1 a = o1 b) (hD : D iL = false) {u : Value} (hu : F w' u) (hb : Below w.heap.size w w') (h2 : iL ≠ iT := by decide) (h3 : iL ≠ iA := by decide) (h4 : iL ≠ iS := by decide) (hf : iL ∉ fx := by decide) (hd : iL ∉ fd := by decide) : RJ S P0 P1 F W0 T z o1 hasL iL iT iA iS fx fd tab td (fun j => D j || j == iL) (fun j => if j = iL then u else xs j) w' := by
 have n2 : ¬ iT = iL := fun e => h2 e.symm
 have n3 : ¬ iA = iL := fun e => h3 e.symm
 have n4 : ¬ iS = iL := fun e => h4 e.symm
 have e2 : (D iT || iT == iL) = D iT := by simp [n2]
 have e3 : (D iA || iA == iL) = D iA := by simp [n3]
 have e4 : (D iS || iS == iL) = D iS := by simp [n4]
 refine ⟨h.m.trans (z1b hb) (fun _ _ e => e), ?_, fun e => ?_, fun e => ?_, fun j hj hr => ?_, fun j hj hr => ?_, fun e => ?_⟩
 ·simp only [e2]
  have := h.p
  cases hd : D iT <;> rw [hd] at this
  ·exact hk.b0 _ _ this hb
  ·exact hk.b1 _ _ this hb
 ·simp only [if_pos]; exact hu
 ·obtain ⟨b, q1, q2, q3⟩ := h.a (by rwa [e3] at e)
  have ec : cond (D iS) (o1 u) z = cond (D iS) (o1 (xs iL)) z := by
   cases hs : D iS
   ·rfl
   ·rcases hh with hh | hh
    ·rw [(h.s hs).2 hh] at hD; cases hD
    ·exact hh _ _
  simp only [e4, if_pos, if_neg n3]
  rw [ec]
  exact ⟨b, q1, q2, (hb.block b (lt_of_block q3)).trans q3⟩
 ·have e : ¬ j = iL := fun e => hf (e ▸ hr)
  simp only [if_neg e]; exact h.v j (by simpa [e] using hj) hr
 ·have e : ¬ j = iL := fun e => hd (e ▸ hr)
  have := (h.e j (by simpa [e] using hj) hr).1
  rw [hD] at this; cases this
 ·rw [e4] at e
  rw [e3]
  exact ⟨(h.s e).1, fun _ => by simp⟩
theorem RJ.turn (hk : RJOk S P0 P1 F W0 T z) (h : RJ S P0 P1 F W0 T z o1 hasL iL iT iA iS fx fd tab td D xs w) {u : Value} (hp : P1 w') (hm : Mod S w w') (h1 : iT ≠ iL := by decide) (h3 : iT ≠ iA := by decide) (h4 : iT ≠ iS := by decide) (h5 : iT ∉ fd := by decide) (hu : iT ∈ fx -> u = tab iT := by intro h; cases h) : RJ S P0 P1 F W0 T z o1 hasL iL iT iA iS fx fd tab td (fun j => D j || j == iT) (fun j => if j = iT then u else xs j) w' := by
 have n1 : ¬ iL = iT := fun e => h1 e.symm
 have n3 : ¬ iA = iT := fun e => h3 e.symm
 have n4 : ¬ iS = iT := fun e => h4 e.symm
 have e1 : (D iL || iL == iT) = D iL := by simp [n1]
 have e3 : (D iA || iA == iT) = D iA := by simp [n3]
 have e4 : (D iS || iS == iT) = D iS := by simp [n4]
 refine ⟨h.m.trans hm (fun _ _ e => e), by simp; exact hp, fun e => ?_, fun e => ?_, fun j hj hr => ?_, fun j hj hr => ?_, fun e => ?_⟩
 ·simp only [if_neg n1]
  exact hk.tf _ _ _ hm (h.l (by rwa [e1] at e))
 ·obtain ⟨b, q1, q2, q3⟩ := h.a (by rwa [e3] at e)
  simp only [e4, if_neg n1, if_neg n3]
  exact ⟨b, q1, q2, (hm.block b (lt_of_block q3) (fun hs => by have := hk.lt b hs; omega)).trans q3⟩
 ·by_cases e : j = iT
  ·subst e; simp only [if_pos]; exact hu hr
  ·simp only [if_neg e]; exact h.v j (by simpa [e] using hj) hr
 ·have e : ¬ j = iT := fun e => h5 (e ▸ hr)
  obtain ⟨a, b⟩ := h.e j (by simpa [e] using hj) hr
  simp only [if_neg e, if_neg n1, e1]
  exact ⟨a, b⟩
 ·rw [e1, e3]; exact h.s (by rwa [e4] at e)
theorem RJ.alloc (hk : RJOk S P0 P1 F W0 T z) (h : RJ S P0 P1 F W0 T z o1 hasL iL iT iA iS fx fd tab td D xs w) (hD : D iA = false) (h1 : iA ≠ iL := by decide) (h2 : iA ≠ iT := by decide) (h4 : iA ≠ iS := by decide) (h5 : iA ∉ fd := by decide) (hf : iA ∉ fx := by decide) : RJ S P0 P1 F W0 T z o1 hasL iL iT iA iS fx fd tab td (fun j => D j || j == iA) (fun j => if j = iA then .pointer (some ⟨w.heap.size, 0, none⟩) else xs j) (w.alloc (.cells z T (0, 0))) := by
 have hb : Below w.heap.size w (w.alloc (.cells z T (0, 0))) := (Below.refl _ _).alloc (Nat.le_refl _) _
 have n1 : ¬ iL = iA := fun e => h1 e.symm
 have n2 : ¬ iT = iA := fun e => h2 e.symm
 have n4 : ¬ iS = iA := fun e => h4 e.symm
 have e1 : (D iL || iL == iA) = D iL := by simp [n1]
 have e2 : (D iT || iT == iA) = D iT := by simp [n2]
 have e4 : (D iS || iS == iA) = D iS := by simp [n4]
 have hSf : D iS = false := by
  cases e : D iS
  ·rfl
  ·rw [(h.s e).1] at hD; cases hD
 refine ⟨h.m.trans (z1b hb) (fun _ _ e => e), ?_, fun e => ?_, fun e => ?_, fun j hj hr => ?_, fun j hj hr => ?_, fun e => ?_⟩
 ·simp only [e2]
  have := h.p
  cases hd : D iT <;> rw [hd] at this
  ·exact hk.b0 _ _ this hb
  ·exact hk.b1 _ _ this hb
 ·simp only [if_neg n1]
  exact hk.bf _ _ _ (h.l (by rwa [e1] at e)) hb
 ·refine ⟨w.heap.size, h.m.size, by simp, ?_⟩
  have e5 : (D iS || iS == iA) = false := by rw [e4, hSf]
  simp only [e5, cond_false]
  exact z0a _ _
 ·have e : ¬ j = iA := fun e => hf (e ▸ hr)
  simp only [if_neg e]; exact h.v j (by simpa [e] using hj) hr
 ·have e : ¬ j = iA := fun e => h5 (e ▸ hr)
  obtain ⟨a, b⟩ := h.e j (by simpa [e] using hj) hr
  simp only [if_neg e, if_neg n1, e1]
  exact ⟨a, b⟩
 ·rw [e4, hSf] at e; cases e
theorem RJ.store (hk : RJOk S P0 P1 F W0 T z) (h : RJ S P0 P1 F W0 T z o1 hasL iL iT iA iS fx fd tab td D xs w) (hD : D iS = false) (hL : hasL = true -> D iL = true) {b : Nat} (hA : D iA = true) (hx : xs iA = .pointer (some ⟨b, 0, none⟩)) {u : Value} (hm : Mod (· = b) w w') (hc : w'.heap[b]? = some (.cells (o1 (xs iL)) T (0, 0))) (h1 : iS ≠ iL := by decide) (h2 : iS ≠ iT := by decide) (h3 : iS ≠ iA := by decide) (h5 : iS ∉ fd := by decide) (hf : iS ∉ fx := by decide) : RJ S P0 P1 F W0 T z o1 hasL iL iT iA iS fx fd tab td (fun j => D j || j == iS) (fun j => if j = iS then u else xs j) w' := by
 obtain ⟨b', q1, q2, q3⟩ := h.a hA
 obtain rfl : b = b' := by rw [hx] at q2; injection q2 with q2; injection q2 with q2; injection q2
 rw [hD] at q3
 simp only [cond_false] at q3
 have n1 : ¬ iL = iS := fun e => h1 e.symm
 have n2 : ¬ iT = iS := fun e => h2 e.symm
 have n3 : ¬ iA = iS := fun e => h3 e.symm
 have e1 : (D iL || iL == iS) = D iL := by simp [n1]
 have e2 : (D iT || iT == iS) = D iT := by simp [n2]
 have e3 : (D iA || iA == iS) = D iA := by simp [n3]
 refine ⟨h.m.trans hm (fun i hi e => by have : i = b := e; omega), ?_, fun e => ?_, fun e => ?_, fun j hj hr => ?_, fun j hj hr => ?_, fun e => ?_⟩
 ·simp only [e2]
  have := h.p
  cases hd : D iT <;> rw [hd] at this
  ·exact hk.s0 _ _ _ q1 q3 hm this
  ·exact hk.s1 _ _ _ q1 q3 hm this
 ·simp only [if_neg n1]
  exact hk.sf _ _ _ _ q1 q3 hm (h.l (by rwa [e1] at e))
 ·simp only [if_neg n1, if_neg n3, beq_self_eq_true, Bool.or_true, cond_true]
  exact ⟨b, q1, q2, hc⟩
 ·have e : ¬ j = iS := fun e => hf (e ▸ hr)
  simp only [if_neg e]; exact h.v j (by simpa [e] using hj) hr
 ·have e : ¬ j = iS := fun e => h5 (e ▸ hr)
  obtain ⟨a, b⟩ := h.e j (by simpa [e] using hj) hr
  simp only [if_neg e, if_neg n1, e1]
  exact ⟨a, b⟩
 ·rw [e1, e3]; exact ⟨hA, hL⟩
end
end Go.Burg
