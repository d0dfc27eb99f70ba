/- Maps, as lists of what they hold: look up, store, delete, length, a new entry; keys of whatever type that can be found. -/
import Derived.Test.YtgdmfledhhoedaaBase
import Derived.Maps.OwnSet
import Derived.Maps.OwnOps
namespace Go.Burg
open Go Go.RowKit

/-- Keys that can be looked for. -/
structure KeyOk {α : Type} (P : Program) (K : TypeId) (kf : α → Value) : Prop where
  check : ∀ (w : World) (em : Bool) (x : α), (Instr.checkKey em 10000 K (kf x)).run P w = .ok () w
  find : ∀ (w : World) (x : α) (es : List MapEntry), (∀ e ∈ es, ∃ y, e.key = kf y) →
    ((Instr.findKey K (kf x) es).run P w = .ok none w ∧ ∀ e ∈ es, e.key ≠ kf x) ∨ ∃ j e, (Instr.findKey K (kf x) es).run P w = .ok (some (j, e.val)) w ∧ es[j]? = some e ∧ e.key = kf x
  stays : ∀ (w : World) (x : α), (Instr.keyThatStays (kf x) (kf x)).run P w = .ok (kf x) w
  inj : ∀ x y, kf x = kf y → x = y

theorem KeyOk.int {P : Program} {K : TypeId} {q : IntKind} (hd : P.underlying K = some (.int q)) : KeyOk P K (Value.int q) where
  check w em x := MapKept.run_checkKey hd (d := .int q) (by simp [MapKept.IsKey]) em 9999
  find w x es hes := by
    rcases MapKept.findNow_spec (d := .int q) (k := .int q x) (by simp [MapKept.IsKey]) es 0 (fun e he => by obtain ⟨y, hy⟩ := hes e he; rw [hy]; simp [MapKept.IsKey]) with ⟨h1, h2⟩ | ⟨j, e0, h1, h2, h3⟩
    · exact .inl ⟨MapKept.run_findKey hd h1, h2⟩
    · exact .inr ⟨j, e0, by simpa using MapKept.run_findKey hd h1, h2, h3⟩
  stays w x := MapKept.run_keyThatStays (d := .int q) (by simp [MapKept.IsKey])
  inj x y h := by cases h; rfl

section
variable {α β : Type}

/-- The entries' stamps: below the clock, no two alike. -/
def Stamps (es : Array MapEntry) (c : Nat) : Prop := (∀ e ∈ es.toList, e.born < c) ∧ (es.toList.map (·.born)).Nodup
@[simp] theorem Stamps.empty (c : Nat) : Stamps #[] c := by simp [Stamps]
theorem Stamps.push {es : Array MapEntry} {c c' : Nat} (h : Stamps es c) (k v : Value) (hc : c < c') : Stamps (es.push { key := k, val := v, born := c }) c' := by
  constructor
  · intro e he
    simp at he
    rcases he with he | rfl
    · have := h.1 e (by simpa using he); omega
    · simpa using hc
  · simp only [Array.toList_push, List.map_append, List.map_cons, List.map_nil, List.nodup_append]
    refine ⟨h.2, by simp, fun a ha b hb => ?_⟩
    simp at hb
    obtain ⟨e, he, rfl⟩ := List.mem_map.1 ha
    have := h.1 e he
    omega
theorem Stamps.erase {es : Array MapEntry} {c : Nat} (h : Stamps es c) (j : Nat) : Stamps (es.eraseIdxIfInBounds j) c := by
  constructor
  · intro e he
    rw [Array.toList_eraseIdxIfInBounds] at he
    exact h.1 e (List.mem_of_mem_eraseIdx he)
  · rw [Array.toList_eraseIdxIfInBounds]
    exact List.Nodup.sublist (List.Sublist.map _ (List.eraseIdx_sublist ..)) h.2
theorem Stamps.modify {es : Array MapEntry} {c : Nat} (h : Stamps es c) (j : Nat) (k v : Value) : Stamps (es.modify j fun e => { e with key := k, val := v }) c := by
  have e1 : (es.modify j fun e => { e with key := k, val := v }).toList.map (·.born) = es.toList.map (·.born) := by
    apply List.ext_getElem?
    intro i
    simp only [List.getElem?_map, Array.getElem?_toList, Array.getElem?_modify]
    split
    · cases es[i]? <;> rfl
    · rfl
  constructor
  · intro e he
    have : e.born ∈ es.toList.map (·.born) := by rw [← e1]; exact List.mem_map.2 ⟨e, he, rfl⟩
    obtain ⟨e2, h2, h3⟩ := List.mem_map.1 this
    rw [← h3]
    exact h.1 e2 h2
  · rw [e1]; exact h.2

/-- The block m is a map that holds l, in the order in which the entries were made. -/
def MapOf (kf : α → Value) (vf : β → Value) (w : World) (m : Nat) (l : List (α × β)) : Prop :=
  ∃ es c, w.heap[m]? = some (.map es c) ∧ es.toList.map (fun e => (e.key, e.val)) = l.map (fun x => (kf x.1, vf x.2)) ∧ Stamps es c ∧ (l.map Prod.fst).Nodup

def setKV [DecidableEq α] (l : List (α × β)) (k : α) (v : β) : List (α × β) := if (l.lookup k).isSome then l.map (fun x => if x.1 = k then (k, v) else x) else l ++ [(k, v)]
def delKV [DecidableEq α] (l : List (α × β)) (k : α) : List (α × β) := l.filter (fun x => decide (x.1 ≠ k))

theorem lookup_none [DecidableEq α] {l : List (α × β)} {k : α} : l.lookup k = none ↔ ∀ x ∈ l, x.1 ≠ k := by
  induction l with
  | nil => simp
  | cons x l ih =>
    obtain ⟨a, b⟩ := x
    simp only [List.lookup_cons]
    by_cases h : k = a
    · subst h; simp
    · have h' : (k == a) = false := by simpa using h
      rw [h']
      simp only [ih]
      constructor
      · intro hh y hy
        rcases List.mem_cons.1 hy with rfl | hy
        · exact fun e => h e.symm
        · exact hh y hy
      · exact fun hh y hy => hh y (List.mem_cons_of_mem _ hy)

theorem lookup_at [DecidableEq α] {l : List (α × β)} {k : α} {v : β} (hn : (l.map Prod.fst).Nodup) {j : Nat} (h : l[j]? = some (k, v)) : l.lookup k = some v := by
  induction l generalizing j with
  | nil => simp at h
  | cons x l ih =>
    obtain ⟨a, b⟩ := x
    simp only [List.map_cons, List.nodup_cons] at hn
    simp only [List.lookup_cons]
    cases j with
    | zero => simp at h; obtain ⟨rfl, rfl⟩ := h; simp
    | succ j =>
      have h' : l[j]? = some (k, v) := by simpa using h
      have hm : (k, v) ∈ l := List.mem_of_getElem? h'
      have hka : (k == a) = false := by
        simp only [beq_eq_false_iff_ne]
        intro e
        subst e
        exact hn.1 (List.mem_map.2 ⟨_, hm, rfl⟩)
      rw [hka]
      exact ih hn.2 h'

theorem erase_filter [DecidableEq α] {l : List (α × β)} {k : α} {v : β} (hn : (l.map Prod.fst).Nodup) {j : Nat} (h : l[j]? = some (k, v)) : l.eraseIdx j = delKV l k := by
  induction l generalizing j with
  | nil => simp at h
  | cons x l ih =>
    obtain ⟨a, b⟩ := x
    simp only [List.map_cons, List.nodup_cons] at hn
    cases j with
    | zero =>
      simp at h
      obtain ⟨rfl, rfl⟩ := h
      simp only [List.eraseIdx_cons_zero, delKV, List.filter_cons, ne_eq, not_true_eq_false, decide_false, Bool.false_eq_true, if_false]
      refine (List.filter_eq_self.2 fun y hy => ?_).symm
      simp only [decide_not, Bool.not_eq_true', decide_eq_false_iff_not]
      exact fun e => hn.1 (List.mem_map.2 ⟨y, hy, e⟩)
    | succ j =>
      have h' : l[j]? = some (k, v) := by simpa using h
      have hm : (k, v) ∈ l := List.mem_of_getElem? h'
      have hka : a ≠ k := fun e => hn.1 (List.mem_map.2 ⟨_, hm, e.symm⟩)
      simp only [List.eraseIdx_cons_succ, delKV, List.filter_cons, ne_eq, hka, not_false_eq_true, decide_true, if_true]
      rw [ih hn.2 h']
      rfl

theorem nodup_del [DecidableEq α] {l : List (α × β)} {k : α} (hn : (l.map Prod.fst).Nodup) : ((delKV l k).map Prod.fst).Nodup :=
  List.Nodup.sublist (List.Sublist.map _ (List.filter_sublist)) hn

theorem nodup_set [DecidableEq α] {l : List (α × β)} {k : α} {v : β} (hn : (l.map Prod.fst).Nodup) : ((setKV l k v).map Prod.fst).Nodup := by
  unfold setKV
  split
  · have : (l.map (fun x => if x.1 = k then (k, v) else x)).map Prod.fst = l.map Prod.fst := by
      rw [List.map_map]
      refine List.map_congr_left fun x _ => ?_
      simp only [Function.comp]
      split
      · rename_i h; exact h.symm
      · rfl
    rw [this]; exact hn
  · rename_i h
    have h' : l.lookup k = none := by
      cases hh : l.lookup k with
      | none => rfl
      | some y => rw [hh] at h; simp at h
    rw [lookup_none] at h'
    rw [List.map_append, List.nodup_append]
    refine ⟨hn, by simp, fun a ha b hb => ?_⟩
    simp at hb
    obtain ⟨x, hx, rfl⟩ := List.mem_map.1 ha
    rw [hb]
    exact h' x hx

/-- w with one block turned. -/
def setObj (w : World) (m : Nat) (o : Obj) : World := { w with heap := w.heap.setIfInBounds m o }

theorem Mod.setObj {S : Nat → Prop} {a w : World} (h : Mod S a w) {m : Nat} (hm : S m ∨ a.heap.size ≤ m) (o : Obj) : Mod S a (setObj w m o) :=
  ⟨h.os, h.tape, h.output, by simpa [Burg.setObj] using h.size, fun k hk hn => by
    have hne : m ≠ k := fun e => by subst e; rcases hm with hm | hm; exact hn hm; omega
    simp only [Burg.setObj, Array.getElem?_setIfInBounds_ne hne]
    exact h.block k hk hn⟩

theorem heap_setObj {w : World} {m : Nat} {o o' : Obj} (h : w.heap[m]? = some o) : (setObj w m o').heap[m]? = some o' := by
  have := lt_of_block h
  simp [setObj, this]

variable {kf : α → Value} {vf : β → Value} {P : Program} {K E T : TypeId} {w : World} {m : Nat} {l : List (α × β)}

theorem MapOf.lt (h : MapOf kf vf w m l) : m < w.heap.size := by obtain ⟨es, c, h1, _⟩ := h; exact lt_of_block h1
theorem MapOf.same {w' : World} (h : MapOf kf vf w m l) (hb : w'.heap[m]? = w.heap[m]?) : MapOf kf vf w' m l := by
  obtain ⟨es, c, h1, h2⟩ := h
  exact ⟨es, c, hb.trans h1, h2⟩
theorem MapOf.alloc (h : MapOf kf vf w m l) (o : Obj) : MapOf kf vf (w.alloc o) m l := h.same (Below.heap_alloc _ _ _ h.lt)
theorem MapOf.setCell (h : MapOf kf vf w m l) {a : Addr} (ha : m ≠ a.block) (v : Value) : MapOf kf vf (w.setCell a v) m l := h.same (Below.heap_setCell _ _ _ _ ha)
theorem MapOf.mod {S : Nat → Prop} {w' : World} (h : MapOf kf vf w m l) (hm : Mod S w w') (hs : ¬ S m) : MapOf kf vf w' m l := h.same (hm.block m h.lt hs)
theorem MapOf.below {B : Nat} {w' : World} (h : MapOf kf vf w m l) (hm : Below B w w') (hs : m < B) : MapOf kf vf w' m l := h.same (hm.block m hs)
theorem MapOf.nodup (h : MapOf kf vf w m l) : (l.map Prod.fst).Nodup := by obtain ⟨_, _, _, _, _, h⟩ := h; exact h

theorem entry_at {es : List MapEntry} (h : es.map (fun e => (e.key, e.val)) = l.map (fun x => (kf x.1, vf x.2))) {j : Nat} {e : MapEntry} (he : es[j]? = some e) : ∃ x, l[j]? = some x ∧ e.key = kf x.1 ∧ e.val = vf x.2 := by
  have h1 := congrArg (·[j]?) h
  simp only [List.getElem?_map, he, Option.map_some] at h1
  cases hx : l[j]? with
  | none => rw [hx] at h1; simp at h1
  | some x =>
    rw [hx] at h1
    simp at h1
    exact ⟨x, rfl, h1.1, h1.2⟩

theorem entry_of {es : List MapEntry} (h : es.map (fun e => (e.key, e.val)) = l.map (fun x => (kf x.1, vf x.2))) : ∀ x ∈ l, ∃ e ∈ es, e.key = kf x.1 := by
  intro x hx
  have : (kf x.1, vf x.2) ∈ es.map (fun e => (e.key, e.val)) := by rw [h]; exact List.mem_map.2 ⟨x, hx, rfl⟩
  obtain ⟨e, he, heq⟩ := List.mem_map.1 this
  exact ⟨e, he, by simpa using congrArg Prod.fst heq⟩

/-- Where a key stands, if it does. -/
theorem MapOf.found [DecidableEq α] (KO : KeyOk P K kf) {es : Array MapEntry} (h : es.toList.map (fun e => (e.key, e.val)) = l.map (fun x => (kf x.1, vf x.2))) (hn : (l.map Prod.fst).Nodup) (w : World) (k : α) :
    ((Instr.findKey K (kf k) es.toList).run P w = .ok none w ∧ l.lookup k = none) ∨
    ∃ j e v, (Instr.findKey K (kf k) es.toList).run P w = .ok (some (j, vf v)) w ∧ es[j]? = some e ∧ e.key = kf k ∧ l[j]? = some (k, v) ∧ l.lookup k = some v := by
  have hall : ∀ e ∈ es.toList, ∃ y, e.key = kf y := fun e he => by
    obtain ⟨j, hj, hje⟩ := List.getElem_of_mem he
    obtain ⟨x, _, hx, _⟩ := entry_at h (by rw [List.getElem?_eq_getElem hj, hje])
    exact ⟨x.1, hx⟩
  rcases KO.find w k es.toList hall with ⟨h1, h2⟩ | ⟨j, e, h1, h2, h3⟩
  · refine .inl ⟨h1, lookup_none.2 fun x hx he => ?_⟩
    obtain ⟨e, hm, hk⟩ := entry_of h x hx
    exact h2 e hm (by rw [hk, he])
  · obtain ⟨x, hx, hxk, hxv⟩ := entry_at h h2
    have hk : x.1 = k := KO.inj _ _ (hxk.symm.trans h3)
    obtain ⟨x1, x2⟩ := x
    simp at hk
    subst hk
    exact .inr ⟨j, e, x2, by rw [h1, hxv], by simpa using h2, h3, hx, lookup_at hn hx⟩

theorem MapOf.lookup [DecidableEq α] (KO : KeyOk P K kf) (hT : P.underlying T = some (.map K E)) {z : Value} (hz : ∀ w, (zeroValue E).run P w = .ok z w) (h : MapOf kf vf w m l) (k : α) (ok : Bool) :
    (Instr.lookup T (.map (some m)) (kf k) ok).run P w = .ok (if ok then .tuple #[((l.lookup k).map vf).getD z, .bool (l.lookup k).isSome] else ((l.lookup k).map vf).getD z) w := by
  obtain ⟨es, c, h1, h2, h3, h4⟩ := h
  rcases MapOf.found KO h2 h4 w k with ⟨hf, hl⟩ | ⟨j, e, v, hf, _, _, _, hl⟩
  · simp [Instr.lookup, run_underlying hT, MapKept.run_getObj_map h1, KO.check, hf, hz, hl, Result.andThen]
  · simp [Instr.lookup, run_underlying hT, MapKept.run_getObj_map h1, KO.check, hf, hl, Result.andThen]

theorem MapOf.len (hT : P.underlying T = some (.map K E)) (h : MapOf kf vf w m l) (ty : TypeId) : (Builtin.len_ #[T] ty #[.map (some m)]).run P w = .ok (.int .i64 l.length) w := by
  obtain ⟨es, c, h1, h2, _⟩ := h
  have hlen : es.size = l.length := by simpa using congrArg List.length h2
  simp [Builtin.len_, run_underlying hT, MapKept.run_getObj_map h1, Result.andThen, goInt, hlen]

theorem MapOf.delete [DecidableEq α] (KO : KeyOk P K kf) (hT : P.underlying T = some (.map K E)) (h : MapOf kf vf w m l) (k : α) (ty KT : TypeId) :
    ∃ w', (Builtin.delete_ #[T, KT] ty #[.map (some m), kf k]).run P w = .ok (.tuple #[]) w' ∧ MapOf kf vf w' m (delKV l k) ∧ Mod (· = m) w w' := by
  obtain ⟨es, c, h1, h2, h3, h4⟩ := h
  rcases MapOf.found KO h2 h4 w k with ⟨hf, hl⟩ | ⟨j, e, v, hf, hj, _, hlj, hl⟩
  · refine ⟨Burg.setObj w m (.map es c), ?_, ⟨es, c, heap_setObj h1, ?_, h3, nodup_del h4⟩, Mod.setObj (S := (· = m)) (Mod.refl _ _) (.inl rfl) _⟩
    · simp [Builtin.delete_, run_underlying hT, MapKept.run_getObj_map h1, KO.check, hf, MapKept.run_setObj_map _ h1, Result.andThen, Burg.setObj]
    · have : delKV l k = l := List.filter_eq_self.2 fun x hx => by simpa using lookup_none.1 hl x hx
      rw [this]; exact h2
  · refine ⟨Burg.setObj w m (.map (es.eraseIdxIfInBounds j) c), ?_, ⟨_, c, heap_setObj h1, ?_, ?_, nodup_del h4⟩, Mod.setObj (S := (· = m)) (Mod.refl _ _) (.inl rfl) _⟩
    · simp [Builtin.delete_, run_underlying hT, MapKept.run_getObj_map h1, KO.check, hf, MapKept.run_setObj_map _ h1, Result.andThen, Burg.setObj]
    · have hj' : j < es.size := (Array.getElem?_eq_some_iff.1 hj).1
      rw [← erase_filter h4 hlj, Array.toList_eraseIdxIfInBounds, ChangeMaps.map_eraseIdx, ChangeMaps.map_eraseIdx, h2]
    · exact h3.erase j

theorem MapOf.store [DecidableEq α] (KO : KeyOk P K kf) (hT : P.underlying T = some (.map K E)) (h : MapOf kf vf w m l) (k : α) (v : β) :
    ∃ w', (Instr.mapUpdate T (.map (some m)) (kf k) (vf v)).run P w = .ok () w' ∧ MapOf kf vf w' m (setKV l k v) ∧ Mod (· = m) w w' := by
  obtain ⟨es, c, h1, h2, h3, h4⟩ := h
  rcases MapOf.found KO h2 h4 w k with ⟨hf, hl⟩ | ⟨j, e, v0, hf, hj, hk, hlj, hl⟩
  · refine ⟨Burg.setObj w m (.map (es.push { key := kf k, val := vf v, born := c }) (c + 1)), ?_, ⟨_, _, heap_setObj h1, ?_, ?_, nodup_set h4⟩, Mod.setObj (S := (· = m)) (Mod.refl _ _) (.inl rfl) _⟩
    · simp [Instr.mapUpdate, run_underlying hT, MapKept.run_getObj_map h1, KO.check, hf, MapKept.run_setObj_map _ h1, Result.andThen, Burg.setObj]
    · simp [setKV, hl, h2]
    · exact h3.push _ _ (by omega)
  · have hj' : j < es.size := (Array.getElem?_eq_some_iff.1 hj).1
    refine ⟨Burg.setObj w m (.map (es.modify j fun e => { e with key := kf k, val := vf v }) c), ?_, ⟨_, _, heap_setObj h1, ?_, ?_, nodup_set h4⟩, Mod.setObj (S := (· = m)) (Mod.refl _ _) (.inl rfl) _⟩
    · simp [Instr.mapUpdate, run_underlying hT, MapKept.run_getObj_map h1, KO.check, hf, hj, hk, KO.stays, MapKept.run_setObj_map _ h1, Result.andThen, Burg.setObj]
    · simp only [setKV, hl, Option.isSome_some, if_true]
      apply List.ext_getElem?
      intro i
      have h5 := congrArg (·[i]?) h2
      simp only [List.getElem?_map] at h5 ⊢
      by_cases hij : j = i
      · subst hij
        simp [hj, hlj]
      · have h6 : (es.modify j fun e => { e with key := kf k, val := vf v }).toList[i]? = es.toList[i]? := by
          simp [hij]
        rw [h6, h5]
        cases hx : l[i]? with
        | none => simp
        | some x =>
          have hne : x.1 ≠ k := fun he => by
            have h7 : (l.map Prod.fst)[i]? = (l.map Prod.fst)[j]? := by simp [hx, hlj, he]
            have hi' : i < (l.map Prod.fst).length := by
              have := (List.getElem?_eq_some_iff.1 hx).1
              simpa using this
            exact hij (((List.getElem?_inj hi' h4).1 h7).symm)
          simp [hne]
    · exact h3.modify j _ _

theorem MapOf.new {t : TypeId} (w : World) : ∃ w', (Instr.makeMap t none).run P w = .ok (.map (some w.heap.size)) w' ∧ w' = w.alloc (.map #[] 0) ∧ MapOf kf vf w' w.heap.size ([] : List (α × β)) :=
  ⟨w.alloc (.map #[] 0), by simp [Instr.makeMap, Result.andThen], rfl, #[], 0, heap_new _ _, by simp, by simp, by simp⟩

/-- The map holds l and, as its last entry, k with v; its stamp is s. -/
def MapNew (kf : α → Value) (vf : β → Value) (w : World) (m : Nat) (l : List (α × β)) (k : α) (v : β) (s : Nat) : Prop :=
  ∃ (es : Array MapEntry) (c : Nat), w.heap[m]? = some (.map (es.push { key := kf k, val := vf v, born := s }) c) ∧ es.toList.map (fun e => (e.key, e.val)) = l.map (fun x => (kf x.1, vf x.2)) ∧ Stamps es s ∧ s < c ∧ ((l ++ [(k, v)]).map Prod.fst).Nodup

/-- The map's clock. -/
def ClockAt (w : World) (m : Nat) (c : Nat) : Prop := ∃ es, w.heap[m]? = some (.map es c)
theorem ClockAt.same {w' : World} {c : Nat} (h : ClockAt w m c) (hb : w'.heap[m]? = w.heap[m]?) : ClockAt w' m c := by obtain ⟨es, h1⟩ := h; exact ⟨es, hb.trans h1⟩
theorem MapOf.clock (h : MapOf kf vf w m l) : ∃ c, ClockAt w m c := by obtain ⟨es, c, h1, _⟩ := h; exact ⟨c, es, h1⟩
theorem MapNew.same {w' : World} {k : α} {v : β} {s : Nat} (h : MapNew kf vf w m l k v s) (hb : w'.heap[m]? = w.heap[m]?) : MapNew kf vf w' m l k v s := by
  obtain ⟨es, c, h1, h2⟩ := h
  exact ⟨es, c, hb.trans h1, h2⟩

theorem MapOf.entry [DecidableEq α] (KO : KeyOk P K kf) (hT : P.underlying T = some (.map K E)) {z : β} (hz : ∀ w, (zeroValue E).run P w = .ok (vf z) w) (h : MapOf kf vf w m l) {s : Nat} (hc : ClockAt w m s) (k : α) (hk : l.lookup k = none) :
    ∃ w', (Instr.mapEntry T (.map (some m)) (kf k)).run P w = .ok (.tuple #[vf z, .int .i64 s]) w' ∧ MapNew kf vf w' m l k z s ∧ Mod (· = m) w w' := by
  obtain ⟨es, c, h1, h2, h3, h4⟩ := h
  obtain ⟨es', h1'⟩ := hc
  rw [h1] at h1'
  obtain ⟨rfl, rfl⟩ : es = es' ∧ c = s := by simpa using h1'
  rcases MapOf.found KO h2 h4 w k with ⟨hf, hl⟩ | ⟨j, e, v0, hf, hj, hk', hlj, hl⟩
  · refine ⟨Burg.setObj w m (.map (es.push { key := kf k, val := vf z, born := c }) (c + 1)), ?_, ⟨es, c + 1, heap_setObj h1, h2, h3, by omega, ?_⟩, Mod.setObj (S := (· = m)) (Mod.refl _ _) (.inl rfl) _⟩
    · simp [Instr.mapEntry, run_underlying hT, MapKept.run_getObj_map h1, KO.check, hf, hz, MapKept.run_setObj_map _ h1, Result.andThen, Burg.setObj, goInt]
    · rw [List.map_append, List.nodup_append]
      refine ⟨h4, by simp, fun a ha b hb => ?_⟩
      simp at hb
      obtain ⟨x, hx, rfl⟩ := List.mem_map.1 ha
      rw [hb]
      exact lookup_none.1 hl x hx
  · rw [hk] at hl; cases hl

theorem MapNew.fill {k : α} {v : β} {s : Nat} (h : MapNew kf vf w m l k v s) (v' : β) :
    ∃ w', (Instr.entryStore T (.map (some m)) (.int .i64 s) (vf v')).run P w = .ok () w' ∧ MapOf kf vf w' m (l ++ [(k, v')]) ∧ Mod (· = m) w w' := by
  obtain ⟨es, c, h1, h2, h3, h4, h5⟩ := h
  have hidx : (es.push { key := kf k, val := vf v, born := s }).findIdx? (fun e => (e.born : Int) == (s : Int)) = some es.size := by
    rw [Array.findIdx?_eq_some_iff_getElem]
    refine ⟨by simp, by simp, fun j hj => ?_⟩
    have := h3.1 es[j] (by simp)
    simp only [Array.getElem_push_lt hj]
    simp
    omega
  refine ⟨Burg.setObj w m (.map ((es.push { key := kf k, val := vf v, born := s }).modify es.size fun e => { e with val := vf v' }) c), ?_, ⟨_, c, heap_setObj h1, ?_, ?_, ?_⟩, Mod.setObj (S := (· = m)) (Mod.refl _ _) (.inl rfl) _⟩
  · simp [Instr.entryStore, asInt, asIntOf, MapKept.run_getObj_map h1, hidx, MapKept.run_setObj_map _ h1, Result.andThen, Burg.setObj]
  · have : ((es.push { key := kf k, val := vf v, born := s }).modify es.size fun e => { e with val := vf v' }) = es.push { key := kf k, val := vf v', born := s } := by
      apply Array.ext
      · simp
      · intro i h6 h7
        simp only [Array.getElem_modify, Array.getElem_push]
        split
        · rename_i he; subst he; simp
        · rename_i he
          have hlt : i < es.size := by simp at h7; omega
          simp [hlt]
    rw [this]
    simp [h2]
  · have : ((es.push { key := kf k, val := vf v, born := s }).modify es.size fun e => { e with val := vf v' }) = ((es.push { key := kf k, val := vf v, born := s }).modify es.size fun e => { e with key := kf k, val := vf v' }) := by
      apply Array.ext
      · simp
      · intro i h6 h7
        simp only [Array.getElem_modify, Array.getElem_push]
        split
        · rename_i he; subst he; simp
        · rfl
    rw [this]
    exact (h3.push _ _ h4).modify _ _ _
  · simpa using h5

end

/-! ### the laws at an operation of a walk -/
section
variable {α β : Type} {kf : α → Value} {vf : β → Value} {P : Program} {K E T : TypeId} {w : World} {m : Nat} {l : List (α × β)}
variable {ops : Array Oper} {rest : List Oper} {o : Oper} {a : Act} {Q : Exit → Act → World → Prop}

theorem wpList_lookup_map [DecidableEq α] (hg : o.guard = none) (M X : Operand) (T : TypeId) (ok : Bool) (hop : o.op = Op.lookup T M X ok) (KO : KeyOk P K kf) (hT : P.underlying T = some (.map K E))
    {z : Value} (hz : ∀ w, (zeroValue E).run P w = .ok z w) (hM : a.eval M = .map (some m)) (k : α) (hX : a.eval X = kf k) (h : MapOf kf vf w m l)
    (hK : wpList P ops Q rest (a.put o.dst (if ok then .tuple #[((l.lookup k).map vf).getD z, .bool (l.lookup k).isSome] else ((l.lookup k).map vf).getD z)) w) : wpList P ops Q (o :: rest) a w := by
  refine wpList_plain hg fun K' hK' => ?_
  unfold Oper.wp
  simp [execOp, hop, hM, hX, h.lookup KO hT hz k ok, Result.andThen]
  exact hK' _ _ hK

theorem wpList_delete_map [DecidableEq α] (hg : o.guard = none) (M X : Operand) (T KT : TypeId) (hop : o.op = Op.call { callee := Callee.builtin Builtin.delete, args := #[M, X], argTypes := #[T, KT] }) (KO : KeyOk P K kf)
    (hT : P.underlying T = some (.map K E)) (hM : a.eval M = .map (some m)) (k : α) (hX : a.eval X = kf k) (h : MapOf kf vf w m l)
    (hK : ∀ w', MapOf kf vf w' m (delKV l k) → Mod (· = m) w w' → wpList P ops Q rest (a.put o.dst (.tuple #[])) w') : wpList P ops Q (o :: rest) a w := by
  refine wpList_plain hg fun K' hK' => ?_
  obtain ⟨w', hrun, r1, r2⟩ := h.delete KO hT k o.type KT
  unfold Oper.wp
  simp [execOp, hop, resolve, invoke, builtin, hM, hX, hrun, Result.andThen]
  exact hK' _ _ (hK w' r1 r2)

theorem wpList_store_map [DecidableEq α] (hg : o.guard = none) (M X V : Operand) (T : TypeId) (hop : o.op = Op.mapUpdate T M X V) (KO : KeyOk P K kf)
    (hT : P.underlying T = some (.map K E)) (hM : a.eval M = .map (some m)) (k : α) (hX : a.eval X = kf k) (v : β) (hV : a.eval V = vf v) (h : MapOf kf vf w m l)
    (hK : ∀ w', MapOf kf vf w' m (setKV l k v) → Mod (· = m) w w' → wpList P ops Q rest (a.put o.dst undef) w') : wpList P ops Q (o :: rest) a w := by
  refine wpList_plain hg fun K' hK' => ?_
  obtain ⟨w', hrun, r1, r2⟩ := h.store KO hT k v
  unfold Oper.wp
  simp [execOp, hop, hM, hX, hV, hrun, Result.andThen]
  exact hK' _ _ (hK w' r1 r2)

theorem wpList_entry_map [DecidableEq α] (hg : o.guard = none) (M X : Operand) (T : TypeId) (hop : o.op = Op.mapEntry T M X) (KO : KeyOk P K kf)
    (hT : P.underlying T = some (.map K E)) {z : β} (hz : ∀ w, (zeroValue E).run P w = .ok (vf z) w) (hM : a.eval M = .map (some m)) (k : α) (hX : a.eval X = kf k) (h : MapOf kf vf w m l) {s : Nat} (hc : ClockAt w m s) (hk : l.lookup k = none)
    (hK : ∀ w', MapNew kf vf w' m l k z s → Mod (· = m) w w' → wpList P ops Q rest (a.put o.dst (.tuple #[vf z, .int .i64 s])) w') : wpList P ops Q (o :: rest) a w := by
  refine wpList_plain hg fun K' hK' => ?_
  obtain ⟨w', hrun, r1, r2⟩ := h.entry KO hT hz hc k hk
  unfold Oper.wp
  simp [execOp, hop, hM, hX, hrun, Result.andThen]
  exact hK' _ _ (hK w' r1 r2)

theorem wpList_fill_map (hg : o.guard = none) (M S V : Operand) (T : TypeId) (hop : o.op = Op.entryStore T M S V) (hM : a.eval M = .map (some m)) {k : α} {v : β} {s : Nat} (hS : a.eval S = .int .i64 s) (v' : β) (hV : a.eval V = vf v')
    (h : MapNew kf vf w m l k v s) (hK : ∀ w', MapOf kf vf w' m (l ++ [(k, v')]) → Mod (· = m) w w' → wpList P ops Q rest (a.put o.dst undef) w') : wpList P ops Q (o :: rest) a w := by
  refine wpList_plain hg fun K' hK' => ?_
  obtain ⟨w', hrun, r1, r2⟩ := h.fill (P := P) (T := T) v'
  unfold Oper.wp
  simp [execOp, hop, hM, hS, hV, hrun, Result.andThen]
  exact hK' _ _ (hK w' r1 r2)

theorem wpList_len_map (hg : o.guard = none) (M : Operand) (T : TypeId) (hop : o.op = Op.call { callee := Callee.builtin Builtin.len, args := #[M], argTypes := #[T] })
    (hT : P.underlying T = some (.map K E)) (hM : a.eval M = .map (some m)) (h : MapOf kf vf w m l)
    (hK : wpList P ops Q rest (a.put o.dst (.int .i64 l.length)) w) : wpList P ops Q (o :: rest) a w := by
  refine wpList_plain hg fun K' hK' => ?_
  unfold Oper.wp
  simp [execOp, hop, resolve, invoke, builtin, hM, h.len hT o.type, Result.andThen]
  exact hK' _ _ hK
end
end Go.Burg
