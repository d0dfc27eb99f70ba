/- SlabNever: the plain law: what a list of places and a list of issued Refs do. -/
import Derived.Test.YtmgiaedfonaefaaSlab
namespace Go.Burg.Never
open Go Go.Burg

/-- An issued Ref, whether it lives, and the value that was given last. -/
structure Ent where
  slot : Nat
  gen : Int
  live : Bool
  val : Int

structure Inv (s m : Nat) (l : List (Cel Int)) (T : List Ent) : Prop where
  len : l.length = s
  gens : ∀ c ∈ l, 0 ≤ c.gen ∧ c.gen ≤ m
  ent : ∀ t ∈ T, ∃ c, l[t.slot]? = some c ∧ 1 ≤ t.gen ∧ t.gen ≤ c.gen ∧ t.live = (c.is && decide (c.gen = t.gen)) ∧ (t.live = true → c.x = t.val)
  dist : ∀ (i j : Nat) (a b : Ent), T[i]? = some a → T[j]? = some b → a.slot = b.slot → a.gen = b.gen → i = j
  cnt : T.countP Ent.live = l.countP Cel.is

theorem countP_set {α : Type} (p : α → Bool) : ∀ (l : List α) (i : Nat) (c d : α), l[i]? = some c → (l.set i d).countP p + (if p c then 1 else 0) = l.countP p + (if p d then 1 else 0) := by
  intro l
  induction l with
  | nil => intro i c d h; simp at h
  | cons a l ih =>
    intro i c d h
    cases i with
    | zero =>
      simp at h
      subst h
      simp only [List.set_cons_zero, List.countP_cons]
      omega
    | succ i =>
      simp at h
      have := ih i c d h
      simp only [List.set_cons_succ, List.countP_cons]
      omega

variable {s m : Nat} {l : List (Cel Int)} {T : List Ent}

theorem Inv.new (s : Nat) : Inv s 0 (List.replicate s ⟨false, 0, 0⟩) [] where
  len := by simp
  gens c hc := by rw [List.eq_of_mem_replicate hc]; exact ⟨by decide, by decide⟩
  ent t ht := by simp at ht
  dist i j a b h := by simp at h
  cnt := by
    rw [List.countP_replicate]
    simp

theorem Inv.mono (h : Inv s m l T) {m' : Nat} (hm : m ≤ m') : Inv s m' l T :=
  ⟨h.len, fun c hc => ⟨(h.gens c hc).1, by have := (h.gens c hc).2; omega⟩, h.ent, h.dist, h.cnt⟩

/-- Used and free places add up. -/
theorem Inv.sum (h : Inv s m l T) (hm : m ≤ 1000) : l.countP Cel.is + l.countP Cel.room = s := by
  have : l.countP Cel.room = l.countP (fun c => !c.is) := List.countP_congr fun c hc => by
    have := (h.gens c hc).2
    have : c.gen < 4294967295 := by omega
    simp [Cel.room, this]
  rw [this, ← h.len, List.length_eq_countP_add_countP (p := Cel.is)]
  simp

theorem Inv.take_no (h : Inv s m l T) (hm : m ≤ 1000) (hF : First l (-1)) : T.countP Ent.live = s := by
  rw [h.cnt]
  rcases hF with ⟨k, c, hk, _⟩ | ⟨_, hall⟩
  · omega
  · rw [← h.len]
    refine List.countP_eq_length.2 fun c hc => ?_
    obtain ⟨j, hj⟩ := List.mem_iff_getElem?.1 hc
    have := hall j c hj
    have hg := (h.gens c hc).2
    have : c.gen < 4294967295 := by omega
    simp_all [Cel.room]

theorem room_is {c : Cel Int} (h : c.room = true) : c.is = false := by
  simp [Cel.room] at h
  exact h.1

theorem Inv.take_yes (h : Inv s m l T) {k : Nat} {c : Cel Int} (x : Int) (hk : l[k]? = some c) (hc : c.room = true) :
    T.countP Ent.live < s ∧ (∀ t ∈ T, ¬ (t.slot = k ∧ t.gen = c.gen + 1)) ∧ Inv s (m + 1) (l.set k ⟨true, x, c.gen + 1⟩) (T ++ [⟨k, c.gen + 1, true, x⟩]) := by
  have hci := room_is hc
  have hkl : k < l.length := (List.getElem?_eq_some_iff.1 hk).1
  have hgc := h.gens c (List.mem_of_getElem? hk)
  have hcs := countP_set Cel.is l k c ⟨true, x, c.gen + 1⟩ hk
  simp only [hci, Bool.false_eq_true, if_false, if_true, Nat.add_zero] at hcs
  have hfresh : ∀ t ∈ T, ¬ (t.slot = k ∧ t.gen = c.gen + 1) := fun t ht ⟨e1, e2⟩ => by
    obtain ⟨c', h1, _, h3, _⟩ := h.ent t ht
    rw [e1, hk] at h1
    cases h1
    omega
  refine ⟨?_, hfresh, ?_, ?_, ?_, ?_, ?_⟩
  · rw [h.cnt]
    have : (l.set k ⟨true, x, c.gen + 1⟩).countP Cel.is ≤ (l.set k ⟨true, x, c.gen + 1⟩).length := List.countP_le_length
    rw [List.length_set, h.len] at this
    omega
  · simp [h.len]
  · intro d hd
    rcases List.mem_or_eq_of_mem_set hd with hd | rfl
    · have := h.gens d hd
      omega
    · simp only
      omega
  · intro t ht
    rcases List.mem_append.1 ht with ht | ht
    · obtain ⟨c', h1, h2, h3, h4, h5⟩ := h.ent t ht
      by_cases e : k = t.slot
      · rw [← e, hk] at h1
        cases h1
        refine ⟨⟨true, x, c.gen + 1⟩, by rw [← e]; exact List.getElem?_set_self hkl, h2, by simp only; omega, ?_, fun hl => ?_⟩
        · rw [h4, hci]
          simp
          omega
        · rw [h4, hci] at hl
          simp at hl
      · exact ⟨c', by rw [List.getElem?_set_ne e]; exact h1, h2, h3, h4, h5⟩
    · simp at ht
      subst ht
      exact ⟨⟨true, x, c.gen + 1⟩, List.getElem?_set_self hkl, by simp only; omega, Int.le_refl _, by simp, fun _ => rfl⟩
  · intro i j a b ha hb e1 e2
    have hin : ∀ (i : Nat) (a : Ent), (T ++ [⟨k, c.gen + 1, true, x⟩])[i]? = some a → (i < T.length ∧ T[i]? = some a) ∨ (i = T.length ∧ a = ⟨k, c.gen + 1, true, x⟩) := fun i a ha => by
      by_cases hi : i < T.length
      · rw [List.getElem?_append_left hi] at ha
        exact .inl ⟨hi, ha⟩
      · rw [List.getElem?_append_right (by omega)] at ha
        have : i - T.length = 0 := by
          have := (List.getElem?_eq_some_iff.1 ha).1
          simp at this
          omega
        rw [this] at ha
        simp at ha
        exact .inr ⟨by omega, ha.symm⟩
    rcases hin i a ha with ⟨_, ha⟩ | ⟨hi, rfl⟩ <;> rcases hin j b hb with ⟨_, hb⟩ | ⟨hj, rfl⟩
    · exact h.dist i j a b ha hb e1 e2
    · exact absurd ⟨e1, e2⟩ (hfresh a (List.mem_of_getElem? ha))
    · exact absurd ⟨e1.symm, e2.symm⟩ (hfresh b (List.mem_of_getElem? hb))
    · omega
  · rw [List.countP_append, h.cnt, hcs]
    simp

theorem Inv.live (h : Inv s m l T) {n : Nat} {t : Ent} (hn : T[n]? = some t) (hl : t.live = true) :
    ∃ c, l[t.slot]? = some c ∧ c.is = true ∧ c.gen = t.gen ∧ c.x = t.val := by
  obtain ⟨c, h1, _, _, h4, h5⟩ := h.ent t (List.mem_of_getElem? hn)
  rw [hl] at h4
  have h4 := h4.symm
  simp at h4
  exact ⟨c, h1, h4.1, h4.2, h5 hl⟩

theorem Inv.dead (h : Inv s m l T) {n : Nat} {t : Ent} (hn : T[n]? = some t) (hl : t.live = false) :
    ∀ (i : Nat) (c : Cel Int), ¬ ((t.slot : Int) = i ∧ l[i]? = some c ∧ c.is = true ∧ c.gen = t.gen) := by
  rintro i c ⟨h1, h2, h3, h4⟩
  obtain ⟨c', g1, _, _, g4, _⟩ := h.ent t (List.mem_of_getElem? hn)
  obtain rfl : t.slot = i := by omega
  rw [g1] at h2
  cases h2
  rw [hl, h3, h4] at g4
  simp at g4

theorem mem_set {n : Nat} {t : Ent} {u : Ent} (h : u ∈ T.set n t) : (∃ i, i ≠ n ∧ T[i]? = some u) ∨ (u = t ∧ n < T.length) := by
  obtain ⟨j, hj⟩ := List.mem_iff_getElem?.1 h
  by_cases e : n = j
  · subst e
    have hlt : n < T.length := by
      have := (List.getElem?_eq_some_iff.1 hj).1
      simpa using this
    rw [List.getElem?_set_self hlt] at hj
    cases hj
    exact .inr ⟨rfl, hlt⟩
  · rw [List.getElem?_set_ne e] at hj
    exact .inl ⟨j, fun h => e h.symm, hj⟩

theorem dist_set (h : Inv s m l T) {n : Nat} {t t' : Ent} (hn : T[n]? = some t) (e1 : t'.slot = t.slot) (e2 : t'.gen = t.gen) :
    ∀ (i j : Nat) (a b : Ent), (T.set n t')[i]? = some a → (T.set n t')[j]? = some b → a.slot = b.slot → a.gen = b.gen → i = j := by
  have key : ∀ (i : Nat) (a : Ent), (T.set n t')[i]? = some a → ∃ a0, T[i]? = some a0 ∧ a.slot = a0.slot ∧ a.gen = a0.gen := fun i a ha => by
    by_cases e : n = i
    · subst e
      rw [List.getElem?_set_self ((List.getElem?_eq_some_iff.1 hn).1)] at ha
      cases ha
      exact ⟨t, hn, e1, e2⟩
    · rw [List.getElem?_set_ne e] at ha
      exact ⟨a, ha, rfl, rfl⟩
  intro i j a b ha hb h1 h2
  obtain ⟨a0, g1, g2, g3⟩ := key i a ha
  obtain ⟨b0, k1, k2, k3⟩ := key j b hb
  exact h.dist i j a0 b0 g1 k1 (by rw [← g2, ← k2, h1]) (by rw [← g3, ← k3, h2])

theorem Inv.free_live (h : Inv s m l T) {n : Nat} {t : Ent} (hn : T[n]? = some t) (hl : t.live = true) {c : Cel Int} (hc : l[t.slot]? = some c) (hg : c.gen = t.gen) (hi : c.is = true) :
    Inv s m (l.set t.slot ⟨false, 0, c.gen⟩) (T.set n ⟨t.slot, t.gen, false, t.val⟩) := by
  have hkl : t.slot < l.length := (List.getElem?_eq_some_iff.1 hc).1
  have hgc := h.gens c (List.mem_of_getElem? hc)
  have c1 := countP_set Cel.is l t.slot c ⟨false, 0, c.gen⟩ hc
  have c2 := countP_set Ent.live T n t ⟨t.slot, t.gen, false, t.val⟩ hn
  simp only [hi, hl, Bool.false_eq_true, if_false, if_true] at c1 c2
  refine ⟨by simp [h.len], fun d hd => ?_, fun u hu => ?_, dist_set h hn rfl rfl, by have := h.cnt; omega⟩
  · rcases List.mem_or_eq_of_mem_set hd with hd | rfl
    · exact h.gens d hd
    · exact hgc
  · rcases mem_set hu with ⟨i, hne, hi'⟩ | ⟨rfl, _⟩
    · obtain ⟨c', h1, h2, h3, h4, h5⟩ := h.ent u (List.mem_of_getElem? hi')
      by_cases e : t.slot = u.slot
      · rw [← e, hc] at h1
        cases h1
        have hgu : c.gen ≠ u.gen := fun hh => hne (h.dist i n u t hi' hn e.symm (by omega))
        refine ⟨⟨false, 0, c.gen⟩, by rw [← e]; exact List.getElem?_set_self hkl, h2, h3, ?_, fun hx => ?_⟩
        · rw [h4]
          simp [hgu]
        · rw [h4] at hx
          simp [hgu] at hx
      · exact ⟨c', by rw [List.getElem?_set_ne e]; exact h1, h2, h3, h4, h5⟩
    · obtain ⟨c', h1, h2, h3, _, _⟩ := h.ent t (List.mem_of_getElem? hn)
      rw [hc] at h1
      cases h1
      exact ⟨⟨false, 0, c.gen⟩, List.getElem?_set_self hkl, h2, h3, by simp, fun hx => by simp at hx⟩

theorem Inv.free_dead (h : Inv s m l T) {n : Nat} {t : Ent} (hn : T[n]? = some t) (hl : t.live = false) : Inv s m l (T.set n ⟨t.slot, t.gen, false, t.val⟩) := by
  have : (⟨t.slot, t.gen, false, t.val⟩ : Ent) = t := by cases t; simp_all
  rw [this]
  have : T.set n t = T := by
    apply List.ext_getElem?
    intro j
    by_cases e : n = j
    · subst e
      rw [List.getElem?_set_self ((List.getElem?_eq_some_iff.1 hn).1), hn]
    · rw [List.getElem?_set_ne e]
  rw [this]
  exact h

theorem Inv.set_dead (h : Inv s m l T) {n : Nat} {t : Ent} (x : Int) (hn : T[n]? = some t) (hl : t.live = false) : Inv s m l (T.set n ⟨t.slot, t.gen, t.live, x⟩) := by
  have c2 := countP_set Ent.live T n t ⟨t.slot, t.gen, t.live, x⟩ hn
  refine ⟨h.len, h.gens, fun u hu => ?_, dist_set h hn rfl rfl, by have := h.cnt; simp only at c2; omega⟩
  rcases mem_set hu with ⟨i, _, hi'⟩ | ⟨rfl, _⟩
  · exact h.ent u (List.mem_of_getElem? hi')
  · obtain ⟨c, h1, h2, h3, h4, _⟩ := h.ent t (List.mem_of_getElem? hn)
    exact ⟨c, h1, h2, h3, h4, fun hx => by simp only at hx; rw [hl] at hx; cases hx⟩

theorem Inv.set_live (h : Inv s m l T) {n : Nat} {t : Ent} (x : Int) (hn : T[n]? = some t) {c : Cel Int} (hc : l[t.slot]? = some c) (hg : c.gen = t.gen) :
    Inv s m (l.set t.slot ⟨c.is, x, c.gen⟩) (T.set n ⟨t.slot, t.gen, t.live, x⟩) := by
  have hkl : t.slot < l.length := (List.getElem?_eq_some_iff.1 hc).1
  have hgc := h.gens c (List.mem_of_getElem? hc)
  have c1 := countP_set Cel.is l t.slot c ⟨c.is, x, c.gen⟩ hc
  have c2 := countP_set Ent.live T n t ⟨t.slot, t.gen, t.live, x⟩ hn
  simp only at c1 c2
  refine ⟨by simp [h.len], fun d hd => ?_, fun u hu => ?_, dist_set h hn rfl rfl, by have := h.cnt; omega⟩
  · rcases List.mem_or_eq_of_mem_set hd with hd | rfl
    · exact h.gens d hd
    · exact hgc
  · rcases mem_set hu with ⟨i, hne, hi'⟩ | ⟨rfl, _⟩
    · obtain ⟨c', h1, h2, h3, h4, h5⟩ := h.ent u (List.mem_of_getElem? hi')
      by_cases e : t.slot = u.slot
      · rw [← e, hc] at h1
        cases h1
        have hgu : c.gen ≠ u.gen := fun hh => hne (h.dist i n u t hi' hn e.symm (by omega))
        refine ⟨⟨c.is, x, c.gen⟩, by rw [← e]; exact List.getElem?_set_self hkl, h2, h3, h4, fun hx => ?_⟩
        rw [h4] at hx
        simp [hgu] at hx
      · exact ⟨c', by rw [List.getElem?_set_ne e]; exact h1, h2, h3, h4, h5⟩
    · obtain ⟨c', h1, h2, h3, h4, _⟩ := h.ent t (List.mem_of_getElem? hn)
      rw [hc] at h1
      cases h1
      exact ⟨⟨c.is, x, c.gen⟩, List.getElem?_set_self hkl, h2, h3, h4, fun _ => rfl⟩
end Go.Burg.Never
