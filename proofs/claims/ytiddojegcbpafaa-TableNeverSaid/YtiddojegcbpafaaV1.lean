/- TableNever: the plain law. -/
import Derived.Test.YtiddojegcbpafaaTF
import Derived.Test.YtiddojegcbpafaaN4
namespace Go.Burg
open Go
theorem first_ex {α : Type} (l : List (Cel α)) : First l (-1) ∨ ∃ (k : Nat) (c : Cel α), First l (k : Int) ∧ l[k]? = some c ∧ c.room = true := by
  by_cases h : ∃ (j : Nat) (d : Cel α), l[j]? = some d ∧ d.room = true
  · obtain ⟨j, hj⟩ := h
    refine .inr ?_
    induction j using Nat.strongRecOn with
    | _ j ih =>
      obtain ⟨d, h1, h2⟩ := hj
      by_cases hm : ∃ i, i < j ∧ ∃ d : Cel α, l[i]? = some d ∧ d.room = true
      · obtain ⟨i, hi, hd⟩ := hm
        exact ih i hi hd
      · refine ⟨j, d, .inl ⟨j, d, rfl, h1, h2, fun i hi e he => ?_⟩, h1, h2⟩
        exact Bool.eq_false_iff.2 fun hr => hm ⟨i, hi, e, he, hr⟩
  · exact .inl (.inr ⟨rfl, fun j d hd => Bool.eq_false_iff.2 fun hr => h ⟨j, d, hd, hr⟩⟩)
end Go.Burg
namespace Go.Proofs.Ytiddojegcbpafaa.T
set_option maxRecDepth 8000
open Go.Burg
/-- A handle. -/
structure Hd where
  tn : Nat
  gn : Int
  rt : Int

/-- What holds of the tenants and the tree's places when m calls are done. -/
structure NInv (m : Nat) (l : Nat → Ten) (ls : List (Cel Nd)) : Prop where
  gen : ∀ n, 0 ≤ (l n).gen ∧ (l n).gen ≤ m
  gls : ∀ (i : Nat) (c : Cel Nd), ls[i]? = some c → 0 ≤ c.gen ∧ c.gen ≤ m
  anc : ∀ n, (l n).purse.isSome = true → 1 ≤ n ∧ n ≤ 4 ∧ 1 ≤ (l n).gen ∧ ∃ i : Nat, (l n).slot = i ∧ ls[i]? = some ⟨true, anchorN, (l n).agen⟩
  dis : ∀ n n', (l n).purse.isSome = true → (l n').purse.isSome = true → (l n).slot = (l n').slot → n = n'
  own : ∀ (i : Nat) (c : Cel Nd), ls[i]? = some c → c.is = true → ∃ n, (l n).purse.isSome = true ∧ (l n).slot = i
  len : ls.length = 40

def Hd.Live (l : Nat → Ten) (h : Hd) : Prop := 1 ≤ h.tn ∧ h.tn ≤ 4 ∧ 1 ≤ h.rt ∧ h.rt ≤ 7 ∧ (l h.tn).purse.isSome = true ∧ 1 ≤ h.gn ∧ h.gn = (l h.tn).gen
def Hd.Dead (l : Nat → Ten) (h : Hd) : Prop := ((l h.tn).purse.isSome = false ∧ h.gn ≤ (l h.tn).gen) ∨ h.gn < (l h.tn).gen

section
variable {m n : Nat} {l : Nat → Ten} {ls : List (Cel Nd)} {h : Hd}
theorem NInv.start : NInv 0 (fun _ => Ten.zero) (List.replicate 40 ⟨false, Nd.zero, 0⟩) := by
  refine ⟨fun n => ⟨by simp [Ten.zero], by simp [Ten.zero]⟩, fun i c hc => ?_, fun n hn => by simp [Ten.zero] at hn, fun n n' hn => by simp [Ten.zero] at hn, fun i c hc hi => ?_, by simp⟩
  · obtain rfl := List.eq_of_mem_replicate (List.mem_of_getElem? hc)
    simp
  · obtain rfl := List.eq_of_mem_replicate (List.mem_of_getElem? hc)
    simp at hi

theorem upd_self (l : Nat → Ten) (n : Nat) (t : Ten) : upd l n t n = t := by simp [upd]
theorem upd_ne (l : Nat → Ten) {n i : Nat} (t : Ten) (hi : i ≠ n) : upd l n t i = l i := by simp [upd, hi]

theorem NInv.mono {m' : Nat} (H : NInv m l ls) (hm : m ≤ m') : NInv m' l ls :=
  ⟨fun n => ⟨(H.gen n).1, by have := (H.gen n).2; omega⟩, fun i c hc => ⟨(H.gls i c hc).1, by have := (H.gls i c hc).2; omega⟩, H.anc, H.dis, H.own, H.len⟩

theorem NInv.create {k p : Nat} {c : Cel Nd} (H : NInv m l ls) (h1 : 1 ≤ n) (h2 : n ≤ 4) (hp : (l n).purse.isSome = false) (hk : ls[k]? = some c) (hc : c.is = false) :
    NInv (m + 1) (upd l n ⟨(l n).gen + 1, k, c.gen + 1, some p⟩) (ls.set k ⟨true, anchorN, c.gen + 1⟩) := by
  have hkl := (List.getElem?_eq_some_iff.1 hk).1
  have hfree : ∀ i, (l i).purse.isSome = true → (l i).slot ≠ k := fun i hi e => by
    obtain ⟨_, _, _, j, hj, hl⟩ := H.anc i hi
    obtain rfl : j = k := by omega
    rw [hk] at hl
    cases hl
    cases hc
  have hps : ∀ i, (upd l n ⟨(l n).gen + 1, k, c.gen + 1, some p⟩ i).purse.isSome = true → i ≠ n → (l i).purse.isSome = true := fun i hi hne => by rwa [upd_ne _ _ hne] at hi
  refine ⟨fun i => ?_, fun i d hd => ?_, fun i hi => ?_, fun i j hi hj he => ?_, fun i d hd his => ?_, by rw [List.length_set]; exact H.len⟩
  · by_cases hin : i = n
    · subst hin
      have := H.gen i
      rw [upd_self]
      exact ⟨by simp only; omega, by simp only; omega⟩
    · have := H.gen i
      rw [upd_ne _ _ hin]
      omega
  · by_cases hik : i = k
    · subst hik
      rw [List.getElem?_set_self hkl] at hd
      cases hd
      have := H.gls i c hk
      exact ⟨by simp only; omega, by simp only; omega⟩
    · rw [List.getElem?_set_ne (Ne.symm hik)] at hd
      have := H.gls i d hd
      omega
  · by_cases hin : i = n
    · subst hin
      have := H.gen i
      rw [upd_self]
      exact ⟨h1, h2, by simp only; omega, k, rfl, List.getElem?_set_self hkl⟩
    · have h3 := hps i hi hin
      rw [upd_ne _ _ hin]
      obtain ⟨a1, a2, a3, j, hj, hl⟩ := H.anc i h3
      have := hfree i h3
      exact ⟨a1, a2, a3, j, hj, by rw [List.getElem?_set_ne (by omega)]; exact hl⟩
  · by_cases hin : i = n
    · by_cases hjn : j = n
      · rw [hin, hjn]
      · subst hin
        have h3 := hps j hj hjn
        rw [upd_self, upd_ne _ _ hjn] at he
        exact absurd he.symm (hfree j h3)
    · have h3 := hps i hi hin
      by_cases hjn : j = n
      · subst hjn
        rw [upd_self, upd_ne _ _ hin] at he
        exact absurd he (hfree i h3)
      · have h4 := hps j hj hjn
        rw [upd_ne _ _ hin, upd_ne _ _ hjn] at he
        exact H.dis i j h3 h4 he
  · by_cases hik : i = k
    · subst hik
      exact ⟨n, by rw [upd_self]; rfl, by rw [upd_self]⟩
    · rw [List.getElem?_set_ne (Ne.symm hik)] at hd
      obtain ⟨j, h3, h4⟩ := H.own i d hd his
      have hjn : j ≠ n := fun e => by rw [e, hp] at h3; cases h3
      exact ⟨j, by rw [upd_ne _ _ hjn]; exact h3, by rw [upd_ne _ _ hjn]; exact h4⟩

theorem NInv.remove {i : Nat} (H : NInv m l ls) (hp : (l n).purse.isSome = true) (hs : (l n).slot = i) : NInv m (upd l n ⟨(l n).gen, 0, 0, none⟩) (ls.set i ⟨false, Nd.zero, (l n).agen⟩) := by
  obtain ⟨h1, h2, h3, i', hi', hl⟩ := H.anc n hp
  obtain rfl : i' = i := by omega
  have hkl := (List.getElem?_eq_some_iff.1 hl).1
  have hps : ∀ j, (upd l n ⟨(l n).gen, 0, 0, none⟩ j).purse.isSome = true → j ≠ n ∧ (l j).purse.isSome = true := fun j hj => by
    by_cases hjn : j = n
    · rw [hjn, upd_self] at hj
      cases hj
    · rw [upd_ne _ _ hjn] at hj
      exact ⟨hjn, hj⟩
  refine ⟨fun j => ?_, fun j d hd => ?_, fun j hj => ?_, fun j k hj hk he => ?_, fun j d hd his => ?_, by rw [List.length_set]; exact H.len⟩
  · by_cases hjn : j = n
    · rw [hjn, upd_self]
      exact H.gen n
    · rw [upd_ne _ _ hjn]
      exact H.gen j
  · by_cases hji : j = i'
    · subst hji
      rw [List.getElem?_set_self hkl] at hd
      cases hd
      exact H.gls j ⟨true, anchorN, (l n).agen⟩ hl
    · rw [List.getElem?_set_ne (Ne.symm hji)] at hd
      exact H.gls j d hd
  · obtain ⟨hjn, h4⟩ := hps j hj
    rw [upd_ne _ _ hjn]
    obtain ⟨a1, a2, a3, k, hk, hlk⟩ := H.anc j h4
    have hne : k ≠ i' := fun e => hjn (H.dis j n h4 hp (by omega))
    exact ⟨a1, a2, a3, k, hk, by rw [List.getElem?_set_ne (Ne.symm hne)]; exact hlk⟩
  · obtain ⟨hjn, h4⟩ := hps j hj
    obtain ⟨hkn, h5⟩ := hps k hk
    rw [upd_ne _ _ hjn, upd_ne _ _ hkn] at he
    exact H.dis j k h4 h5 he
  · by_cases hji : j = i'
    · subst hji
      rw [List.getElem?_set_self hkl] at hd
      cases hd
      cases his
    · rw [List.getElem?_set_ne (Ne.symm hji)] at hd
      obtain ⟨k, h4, h5⟩ := H.own j d hd his
      have hkn : k ≠ n := fun e => by subst e; omega
      exact ⟨k, by rw [upd_ne _ _ hkn]; exact h4, by rw [upd_ne _ _ hkn]; exact h5⟩

theorem NInv.revoke (H : NInv m l ls) : NInv (m + 1) (upd l n { l n with gen := (l n).gen + 1 }) ls := by
  have hsame : ∀ j, (upd l n { l n with gen := (l n).gen + 1 } j).purse = (l j).purse ∧ (upd l n { l n with gen := (l n).gen + 1 } j).slot = (l j).slot ∧ (upd l n { l n with gen := (l n).gen + 1 } j).agen = (l j).agen ∧
      (l j).gen ≤ (upd l n { l n with gen := (l n).gen + 1 } j).gen ∧ (upd l n { l n with gen := (l n).gen + 1 } j).gen ≤ (l j).gen + 1 := fun j => by
    by_cases hjn : j = n
    · subst hjn
      rw [upd_self]
      exact ⟨rfl, rfl, rfl, by simp only; omega, by simp only; omega⟩
    · rw [upd_ne _ _ hjn]
      exact ⟨rfl, rfl, rfl, by omega, by omega⟩
  refine ⟨fun j => ?_, fun j d hd => ?_, fun j hj => ?_, fun j k hj hk he => ?_, fun j d hd his => ?_, H.len⟩
  · obtain ⟨_, _, _, e4, e5⟩ := hsame j
    have := H.gen j
    omega
  · have := H.gls j d hd
    omega
  · obtain ⟨e1, e2, e3, e4, e5⟩ := hsame j
    rw [e1] at hj
    obtain ⟨a1, a2, a3, k, hk, hlk⟩ := H.anc j hj
    rw [e2, e3]
    exact ⟨a1, a2, by omega, k, hk, hlk⟩
  · rw [(hsame j).1] at hj
    rw [(hsame k).1] at hk
    rw [(hsame j).2.1, (hsame k).2.1] at he
    exact H.dis j k hj hk he
  · obtain ⟨k, h4, h5⟩ := H.own j d hd his
    exact ⟨k, by rw [(hsame k).1]; exact h4, by rw [(hsame k).2.1]; exact h5⟩

/-- There is always room: the tenants are four. -/
theorem NInv.first (H : NInv m l ls) (hm : m ≤ 1000) : ∃ (k : Nat) (c : Cel Nd), First ls (k : Int) ∧ ls[k]? = some c ∧ c.room = true := by
  rcases first_ex ls with hF | h
  · exfalso
    have hall : ∀ i : Nat, i < 40 → ∃ n : Nat, (l n).slot = i ∧ 1 ≤ n ∧ n ≤ 4 := fun i hi => by
      have hg : ls[i]? = some (ls[i]'(by rw [H.len]; exact hi)) := List.getElem?_eq_getElem _
      have hr : (ls[i]'(by rw [H.len]; exact hi)).room = false := by
        rcases hF with ⟨k, _, hk, _⟩ | ⟨_, hF⟩
        · omega
        · exact hF i _ hg
      have hgen := H.gls i _ hg
      have his : (ls[i]'(by rw [H.len]; exact hi)).is = true := by
        unfold Cel.room at hr
        rw [Bool.and_eq_false_iff] at hr
        rcases hr with hr | hr
        · simpa using hr
        · simp at hr
          omega
      obtain ⟨n, h1, h2⟩ := H.own i _ hg his
      obtain ⟨a1, a2, _⟩ := H.anc n h1
      exact ⟨n, h2, a1, a2⟩
    obtain ⟨n0, e0, a0, b0⟩ := hall 0 (by omega)
    obtain ⟨n1, e1, a1, b1⟩ := hall 1 (by omega)
    obtain ⟨n2, e2, a2, b2⟩ := hall 2 (by omega)
    obtain ⟨n3, e3, a3, b3⟩ := hall 3 (by omega)
    obtain ⟨n4, e4, a4, b4⟩ := hall 4 (by omega)
    have d : ∀ i j : Nat, (l i).slot ≠ (l j).slot → i ≠ j := fun i j h e => h (by rw [e])
    have := d n0 n1 (by omega); have := d n0 n2 (by omega); have := d n0 n3 (by omega); have := d n0 n4 (by omega)
    have := d n1 n2 (by omega); have := d n1 n3 (by omega); have := d n1 n4 (by omega)
    have := d n2 n3 (by omega); have := d n2 n4 (by omega)
    have := d n3 n4 (by omega)
    clear e0 e1 e2 e3 e4 d hall
    omega
  · exact h

/-- Handles, from call to call. -/
theorem Hd.Live.create {k p : Nat} {g : Int} (hl : h.Live l) (hp : (l n).purse.isSome = false) : h.Live (upd l n ⟨(l n).gen + 1, k, g, some p⟩) := by
  have hne : h.tn ≠ n := fun e => by have := hl.2.2.2.2.1; rw [e, hp] at this; cases this
  unfold Hd.Live
  rw [upd_ne _ _ hne]
  exact hl
theorem Hd.Dead.create {k p : Nat} {g : Int} (hd : h.Dead l) (hp : (l n).purse.isSome = false) : h.Dead (upd l n ⟨(l n).gen + 1, k, g, some p⟩) := by
  unfold Hd.Dead at hd ⊢
  by_cases hin : h.tn = n
  · rw [hin, upd_self]
    rw [hin, hp] at hd
    refine .inr ?_
    simp only
    rcases hd with hd | hd
    · omega
    · omega
  · rw [upd_ne _ _ hin]
    exact hd
theorem Hd.Live.remove (hl : h.Live l) (hin : h.tn ≠ n) : h.Live (upd l n ⟨(l n).gen, 0, 0, none⟩) := by
  unfold Hd.Live
  rw [upd_ne _ _ hin]
  exact hl
theorem Hd.Live.removed (hl : h.Live l) (hin : h.tn = n) : h.Dead (upd l n ⟨(l n).gen, 0, 0, none⟩) := by
  unfold Hd.Dead
  rw [hin, upd_self]
  have h1 := hl.2.2.2.2.2.2
  rw [hin] at h1
  exact .inl ⟨rfl, by simp only; omega⟩
theorem Hd.Dead.remove (hd : h.Dead l) : h.Dead (upd l n ⟨(l n).gen, 0, 0, none⟩) := by
  unfold Hd.Dead at hd ⊢
  by_cases hin : h.tn = n
  · rw [hin, upd_self]
    rw [hin] at hd
    refine .inl ⟨rfl, ?_⟩
    simp only
    rcases hd with hd | hd <;> omega
  · rw [upd_ne _ _ hin]
    exact hd
theorem Hd.Live.revoke (hl : h.Live l) (hin : h.tn ≠ n) : h.Live (upd l n { l n with gen := (l n).gen + 1 }) := by
  unfold Hd.Live
  rw [upd_ne _ _ hin]
  exact hl
theorem Hd.Live.revoked (hl : h.Live l) (hin : h.tn = n) : h.Dead (upd l n { l n with gen := (l n).gen + 1 }) := by
  unfold Hd.Dead
  rw [hin, upd_self]
  have h1 := hl.2.2.2.2.2.2
  rw [hin] at h1
  exact .inr (by simp only; omega)
theorem Hd.Dead.revoke (hd : h.Dead l) : h.Dead (upd l n { l n with gen := (l n).gen + 1 }) := by
  unfold Hd.Dead at hd ⊢
  by_cases hin : h.tn = n
  · rw [hin, upd_self]
    rw [hin] at hd
    refine .inr ?_
    simp only
    rcases hd with hd | hd <;> omega
  · rw [upd_ne _ _ hin]
    exact hd
theorem Hd.Live.good (hl : h.Live l) : goodB l h.tn h.gn h.rt = true := by
  obtain ⟨a1, a2, a3, a4, a5, a6, a7⟩ := hl
  unfold goodB hRight
  rw [Int.toNat_natCast, a5, a7]
  rw [a7] at a6
  simp
  omega
theorem Hd.Dead.bad (hd : h.Dead l) : goodB l h.tn h.gn h.rt = false := by
  unfold goodB
  rw [Int.toNat_natCast]
  rcases hd with ⟨h1, _⟩ | h1
  · rw [h1]; rfl
  · have : ((l h.tn).gen == h.gn) = false := by simp; omega
    rw [this, Bool.and_false, Bool.and_false]
theorem Hd.Dead.may (hd : h.Dead l) (d : Int) : mayI l h.tn h.gn h.rt d = 11 := by
  unfold mayI
  rw [hd.bad]
  rfl
/-- A new handle. -/
theorem NInv.issue (H : NInv m l ls) {r : Int} (hp : (l n).purse.isSome = true) (h1 : 1 ≤ r) (h2 : r ≤ 7) : Hd.Live l ⟨n, (l n).gen, r⟩ := by
  obtain ⟨a1, a2, a3, _⟩ := H.anc n hp
  exact ⟨a1, a2, h1, h2, hp, a3, rfl⟩
end
/-- The cells of handles. -/
def hcells (l : List Hd) : List Value := l.flatMap fun h => [.int .i64 h.tn, .int .u32 h.gn, .int .u8 h.rt]
theorem hcells_len (l : List Hd) : (hcells l).length = l.length * 3 := by
  unfold hcells
  induction l with
  | nil => rfl
  | cons x l ih => simp only [List.flatMap_cons, List.length_append, List.length_cons, List.length_nil] at ih ⊢; omega
theorem hcells_app (l : List Hd) (h : Hd) : hcells (l ++ [h]) = hcells l ++ [.int .i64 h.tn, .int .u32 h.gn, .int .u8 h.rt] := by simp [hcells]
theorem hcells_at {l : List Hd} {i : Nat} {h : Hd} (hi : l[i]? = some h) : (hcells l)[i * 3]? = some (.int .i64 h.tn) ∧ (hcells l)[i * 3 + 1]? = some (.int .u32 h.gn) ∧ (hcells l)[i * 3 + 2]? = some (.int .u8 h.rt) := by
  induction l generalizing i with
  | nil => simp at hi
  | cons x l ih =>
    unfold hcells at ih ⊢
    rw [List.flatMap_cons]
    cases i with
    | zero =>
      simp at hi
      subst hi
      simp
    | succ i =>
      simp at hi
      obtain ⟨h1, h2, h3⟩ := ih hi
      refine ⟨?_, ?_, ?_⟩
      · rw [List.getElem?_append_right (by simp; omega)]; rw [← h1]; congr 1; simp; omega
      · rw [List.getElem?_append_right (by simp; omega)]; rw [← h2]; congr 1; simp; omega
      · rw [List.getElem?_append_right (by simp; omega)]; rw [← h3]; congr 1; simp; omega
/-- Those of a tenant among the first j; the others. -/
def ofT (n : Nat) (l : List Hd) (j : Nat) : List Hd := (l.take j).filter fun h => decide (h.tn = n)
def notT (n : Nat) (l : List Hd) (j : Nat) : List Hd := (l.take j).filter fun h => !decide (h.tn = n)
section
variable {n j : Nat} {l : List Hd} {h : Hd}
theorem ofT_yes (hj : l[j]? = some h) (ht : h.tn = n) : ofT n l (j + 1) = ofT n l j ++ [h] := by
  unfold ofT
  rw [List.take_add_one, hj, List.filter_append]
  simp [ht]
theorem ofT_no (hj : l[j]? = some h) (ht : h.tn ≠ n) : ofT n l (j + 1) = ofT n l j := by
  unfold ofT
  rw [List.take_add_one, hj, List.filter_append]
  simp [ht]
theorem notT_yes (hj : l[j]? = some h) (ht : h.tn = n) : notT n l (j + 1) = notT n l j := by
  unfold notT
  rw [List.take_add_one, hj, List.filter_append]
  simp [ht]
theorem notT_no (hj : l[j]? = some h) (ht : h.tn ≠ n) : notT n l (j + 1) = notT n l j ++ [h] := by
  unfold notT
  rw [List.take_add_one, hj, List.filter_append]
  simp [ht]
theorem ofT_len : (ofT n l j).length ≤ l.length := Nat.le_trans (List.length_filter_le _ _) (by simp; omega)
theorem notT_len : (notT n l j).length ≤ l.length := Nat.le_trans (List.length_filter_le _ _) (by simp; omega)
theorem both_len : (ofT n l j).length + (notT n l j).length ≤ l.length := by
  have h1 : (ofT n l j).length + (notT n l j).length = (l.take j).length := by
    unfold ofT notT
    induction l.take j with
    | nil => rfl
    | cons x l ih =>
      by_cases hx : x.tn = n <;> simp [hx] at ih ⊢ <;> omega
  have h2 : (l.take j).length ≤ l.length := by simp; omega
  omega
theorem mem_ofT (hm : h ∈ ofT n l l.length) : h ∈ l ∧ h.tn = n := by
  unfold ofT at hm
  rw [List.mem_filter] at hm
  exact ⟨List.mem_of_mem_take hm.1, by simpa using hm.2⟩
theorem mem_notT (hm : h ∈ notT n l l.length) : h ∈ l ∧ h.tn ≠ n := by
  unfold notT at hm
  rw [List.mem_filter] at hm
  exact ⟨List.mem_of_mem_take hm.1, by simpa using hm.2⟩
end
end Go.Proofs.Ytiddojegcbpafaa.T
