/- Part 23 of 51 of a proof: lemmas on the functions that it reaches. -/
import Derived.Test.YtnngicopphiaaaaGreatDoorC22
import Derived.Test.YtnngicopphiaaaaGreatDoorC02
import Derived.Maps.OwnSet
import Derived.Maps.OwnOps
import Derived.Test.YtnngicopphiaaaaGreatDoorRows
import Derived.DeepKeys5
namespace Go.Proofs.YtnngicopphiaaaaGreatDoor.K
set_option maxRecDepth 8000
open Go.ChangeShapes Go.WideShapes Go.ChangeAt Go.RowKit Go.Burg
open Go.Burg.Lk
theorem held_any (x : Wd) (w : World) : Calls Tryz.prog 97 #[.agg #[.int .u64 x.1]] w fun e w' => e = .returned (.bool x.held) ∧ Below w.heap.size w w' := by
  cases hl : x.locked <;> cases hd : x.dead <;> simp only [Wd.held, hl, hd]
  all_goals
    have HL := hid (fun w => locked_any x w)
    have HD := hid (fun w => dead_any x w)
    rw [hl] at HL
    rw [hd] at HD
    have hA := heap_new w (.cells #[.int .u64 x.1] 151)
    go_enter Tryz.func97, Tryz.ntmps97
    go_wp2_with (first | (go_at_call 92; refine (HL.out _).mono ?_; rintro e w1 ⟨rfl, hb1⟩; have hA1 := blk_below hA hb1 (by simp); have cA1 := cell_of hA1 0) | (go_at_call 91; refine (HD.out _).mono ?_; rintro e w2 ⟨rfl, hb2⟩))
    go_ret
    refine ⟨rfl, ?_⟩
    first | exact below_chain (below_chain ((Below.refl _ _).alloc (Nat.le_refl _) _) hb1 (by simp)) hb2 (Nat.le_trans (by simp) hb1.size) | exact below_chain ((Below.refl _ _).alloc (Nat.le_refl _) _) hb1 (by simp)
theorem lock1_any (x : Wd) (hf : x.free = true) (w : World) : Calls Tryz.prog 96 #[.int .u64 x.1] w fun e w' => e = .returned (wV x.lock.1) ∧ Below w.heap.size w w' := by
  have h4 := x.free_iff.1 hf
  have hx := x.2
  have hb := bit_or1 x.2.1 x.2.2 (by omega)
  have e1 : x.lock.1 = Wd.of (x.1 + 1) := by rw [Wd.lock, if_pos hf]
  have e2 : (Wd.of (x.1 + 1)).1 = x.1 + 1 := Wd.of_in _ (by omega) (by omega)
  rw [e1, wV, e2]
  clear e1 e2 hf
  go_enter Tryz.func96, Tryz.ntmps96
  go_wp2
  go_ret
  exact ⟨rfl, Below.refl _ _⟩
theorem drop1_any (x : Wd) (hf : x.held = true) (w : World) : Calls Tryz.prog 98 #[.int .u64 x.1] w fun e w' => e = .returned (wV x.drop.1) ∧ Below w.heap.size w w' := by
  have h4 := x.held_iff.1 hf
  have hx := x.2
  have hb := bit_not1 x.2.1 x.2.2
  rw [show x.1 % 2 = 1 by omega] at hb
  have e1 : x.drop.1 = Wd.of (x.1 - 1) := by rw [Wd.drop, if_pos hf]
  have e2 : (Wd.of (x.1 - 1)).1 = x.1 - 1 := Wd.of_in _ (by omega) (by omega)
  rw [e1, wV, e2]
  clear e1 e2 hf
  go_enter Tryz.func98, Tryz.ntmps98
  go_wp2
  go_ret
  exact ⟨rfl, Below.refl _ _⟩
theorem done1_any (x : Wd) (hf : x.held = true) (w : World) : Calls Tryz.prog 99 #[.int .u64 x.1] w fun e w' => e = .returned (wV x.done.1) ∧ Below w.heap.size w w' := by
  have h4 := x.held_iff.1 hf
  have hx := x.2
  have hb := bit_not1 x.2.1 x.2.2
  rw [show x.1 % 2 = 1 by omega] at hb
  have e1 : x.done.1 = Wd.of (x.1 - 1 + 4) := by rw [Wd.done, if_pos hf]
  rw [e1, wV]
  show Calls Tryz.prog 99 #[.int .u64 x.1] w fun e w' => e = .returned (.int .u64 (IntKind.u64.wrap (x.1 - 1 + 4))) ∧ Below w.heap.size w w'
  clear e1 hf
  go_enter Tryz.func99, Tryz.ntmps99
  go_wp2
  go_ret
  exact ⟨rfl, Below.refl _ _⟩
theorem wturn_lock (x : Wd) (w : World) : Calls Tryz.prog 94 #[.agg #[.int .u64 x.1], .func (.func 95) #[.agg #[.int .u64 x.1]] #[], .func (.func 96) #[] #[]] w fun e w' => e = .returned (.tuple #[wV x.lock.1, .bool x.lock.2]) ∧ Below w.heap.size w w' := by
  cases hf : x.free
  · have e0 : x.lock = (x, false) := by rw [Wd.lock, hf]; rfl
    rw [e0]
    have HF := hid (fun w => free_any x w)
    rw [hf] at HF
    have hA := heap_new w (.cells #[.int .u64 x.1] 153)
    clear e0 hf
    go_enter Tryz.func94, Tryz.ntmps94
    go_wp2_with (go_at_call 95; refine (HF.out _).mono ?_; rintro e w1 ⟨rfl, hb1⟩; have hA1 := blk_below hA hb1 (by simp); have cA1 := cell_of hA1 0)
    go_ret2
    exact ⟨rfl, below_chain ((Below.refl _ _).alloc (Nat.le_refl _) _) hb1 (by simp)⟩
  · have e0 : x.lock.2 = true := by rw [Wd.lock, hf]; rfl
    rw [e0]
    have HF := hid (fun w => free_any x w)
    have HG := hid (fun w => lock1_any x hf w)
    rw [hf] at HF
    have hA := heap_new w (.cells #[.int .u64 x.1] 153)
    clear e0 hf
    go_enter Tryz.func94, Tryz.ntmps94
    go_wp2_with (first | (go_at_call 95; refine (HF.out _).mono ?_; rintro e w1 ⟨rfl, hb1⟩; have hA1 := blk_below hA hb1 (by simp); have cA1 := cell_of hA1 0) | (go_at_call 96; refine (HG.out _).mono ?_; rintro e w2 ⟨rfl, hb2⟩))
    go_ret2
    exact ⟨rfl, below_chain (below_chain ((Below.refl _ _).alloc (Nat.le_refl _) _) hb1 (by simp)) hb2 (Nat.le_trans (by simp) hb1.size)⟩
theorem wturn_drop (x : Wd) (w : World) : Calls Tryz.prog 94 #[.agg #[.int .u64 x.1], .func (.func 97) #[.agg #[.int .u64 x.1]] #[], .func (.func 98) #[] #[]] w fun e w' => e = .returned (.tuple #[wV x.drop.1, .bool x.drop.2]) ∧ Below w.heap.size w w' := by
  cases hf : x.held
  · have e0 : x.drop = (x, false) := by rw [Wd.drop, hf]; rfl
    rw [e0]
    have HF := hid (fun w => held_any x w)
    rw [hf] at HF
    have hA := heap_new w (.cells #[.int .u64 x.1] 153)
    clear e0 hf
    go_enter Tryz.func94, Tryz.ntmps94
    go_wp2_with (go_at_call 97; refine (HF.out _).mono ?_; rintro e w1 ⟨rfl, hb1⟩; have hA1 := blk_below hA hb1 (by simp); have cA1 := cell_of hA1 0)
    go_ret2
    exact ⟨rfl, below_chain ((Below.refl _ _).alloc (Nat.le_refl _) _) hb1 (by simp)⟩
  · have e0 : x.drop.2 = true := by rw [Wd.drop, hf]; rfl
    rw [e0]
    have HF := hid (fun w => held_any x w)
    have HG := hid (fun w => drop1_any x hf w)
    rw [hf] at HF
    have hA := heap_new w (.cells #[.int .u64 x.1] 153)
    clear e0 hf
    go_enter Tryz.func94, Tryz.ntmps94
    go_wp2_with (first | (go_at_call 97; refine (HF.out _).mono ?_; rintro e w1 ⟨rfl, hb1⟩; have hA1 := blk_below hA hb1 (by simp); have cA1 := cell_of hA1 0) | (go_at_call 98; refine (HG.out _).mono ?_; rintro e w2 ⟨rfl, hb2⟩))
    go_ret2
    exact ⟨rfl, below_chain (below_chain ((Below.refl _ _).alloc (Nat.le_refl _) _) hb1 (by simp)) hb2 (Nat.le_trans (by simp) hb1.size)⟩
theorem wturn_done (x : Wd) (w : World) : Calls Tryz.prog 94 #[.agg #[.int .u64 x.1], .func (.func 97) #[.agg #[.int .u64 x.1]] #[], .func (.func 99) #[] #[]] w fun e w' => e = .returned (.tuple #[wV x.done.1, .bool x.done.2]) ∧ Below w.heap.size w w' := by
  cases hf : x.held
  · have e0 : x.done = (x, false) := by rw [Wd.done, hf]; rfl
    rw [e0]
    have HF := hid (fun w => held_any x w)
    rw [hf] at HF
    have hA := heap_new w (.cells #[.int .u64 x.1] 153)
    clear e0 hf
    go_enter Tryz.func94, Tryz.ntmps94
    go_wp2_with (go_at_call 97; refine (HF.out _).mono ?_; rintro e w1 ⟨rfl, hb1⟩; have hA1 := blk_below hA hb1 (by simp); have cA1 := cell_of hA1 0)
    go_ret2
    exact ⟨rfl, below_chain ((Below.refl _ _).alloc (Nat.le_refl _) _) hb1 (by simp)⟩
  · have e0 : x.done.2 = true := by rw [Wd.done, hf]; rfl
    rw [e0]
    have HF := hid (fun w => held_any x w)
    have HG := hid (fun w => done1_any x hf w)
    rw [hf] at HF
    have hA := heap_new w (.cells #[.int .u64 x.1] 153)
    clear e0 hf
    go_enter Tryz.func94, Tryz.ntmps94
    go_wp2_with (first | (go_at_call 97; refine (HF.out _).mono ?_; rintro e w1 ⟨rfl, hb1⟩; have hA1 := blk_below hA hb1 (by simp); have cA1 := cell_of hA1 0) | (go_at_call 99; refine (HG.out _).mono ?_; rintro e w2 ⟨rfl, hb2⟩))
    go_ret2
    exact ⟨rfl, below_chain (below_chain ((Below.refl _ _).alloc (Nat.le_refl _) _) hb1 (by simp)) hb2 (Nat.le_trans (by simp) hb1.size)⟩
theorem vLock_any (x : Wd) (w : World) : Calls Tryz.prog 62 #[.int .u64 x.1] w fun e w' => e = .returned (.tuple #[wV x.lock.1, .bool x.lock.2]) ∧ Below w.heap.size w w' := by
  have hmf : ∀ (fn : Fn) (first cap : Array Value) (w : World), (Instr.makeFunc fn first cap).run Tryz.prog w = .ok (.func fn first cap) w := fun _ _ _ _ => rfl
  go_enter Tryz.func62, Tryz.ntmps62
  go_wp2_with (first | (go_at_call 90; refine (of_any _ _).mono ?_; rintro e w1 ⟨rfl, hb1⟩) | (go_at_call 94; refine (wturn_lock x _).mono ?_; rintro e w2 ⟨rfl, hb2⟩))
  go_ret2
  exact ⟨rfl, below_chain (hb1.alloc hb1.size _) hb2 (Nat.le_trans hb1.size (by simp))⟩
theorem vDrop_any (x : Wd) (w : World) : Calls Tryz.prog 64 #[.int .u64 x.1] w fun e w' => e = .returned (.tuple #[wV x.drop.1, .bool x.drop.2]) ∧ Below w.heap.size w w' := by
  have hmf : ∀ (fn : Fn) (first cap : Array Value) (w : World), (Instr.makeFunc fn first cap).run Tryz.prog w = .ok (.func fn first cap) w := fun _ _ _ _ => rfl
  go_enter Tryz.func64, Tryz.ntmps64
  go_wp2_with (first | (go_at_call 90; refine (of_any _ _).mono ?_; rintro e w1 ⟨rfl, hb1⟩) | (go_at_call 94; refine (wturn_drop x _).mono ?_; rintro e w2 ⟨rfl, hb2⟩))
  go_ret2
  exact ⟨rfl, below_chain (hb1.alloc hb1.size _) hb2 (Nat.le_trans hb1.size (by simp))⟩
theorem vDone_any (x : Wd) (w : World) : Calls Tryz.prog 65 #[.int .u64 x.1] w fun e w' => e = .returned (.tuple #[wV x.done.1, .bool x.done.2]) ∧ Below w.heap.size w w' := by
  have hmf : ∀ (fn : Fn) (first cap : Array Value) (w : World), (Instr.makeFunc fn first cap).run Tryz.prog w = .ok (.func fn first cap) w := fun _ _ _ _ => rfl
  go_enter Tryz.func65, Tryz.ntmps65
  go_wp2_with (first | (go_at_call 90; refine (of_any _ _).mono ?_; rintro e w1 ⟨rfl, hb1⟩) | (go_at_call 94; refine (wturn_done x _).mono ?_; rintro e w2 ⟨rfl, hb2⟩))
  go_ret2
  exact ⟨rfl, below_chain (hb1.alloc hb1.size _) hb2 (Nat.le_trans hb1.size (by simp))⟩
end Go.Proofs.YtnngicopphiaaaaGreatDoor.K

namespace Go.Burg
open Go Go.RowKit
structure KeyOk {α : Type} (P : Program) (K : TypeId) (kf : α → Value) : Prop where
  check : ∀ (w : World) (em : Bool) (x : α), (Instr.checkKey em 10000 K (kf x)).run P w = .ok () w
  find : ∀ (w : World) (x : α) (es : List MapEntry), (∀ e ∈ es, ∃ y, e.key = kf y) →
    ((Instr.findKey K (kf x) es).run P w = .ok none w ∧ ∀ e ∈ es, e.key ≠ kf x) ∨ ∃ j e, (Instr.findKey K (kf x) es).run P w = .ok (some (j, e.val)) w ∧ es[j]? = some e ∧ e.key = kf x
  stays : ∀ (w : World) (x : α), (Instr.keyThatStays (kf x) (kf x)).run P w = .ok (kf x) w
  inj : ∀ x y, kf x = kf y → x = y
theorem KeyOk.int {P : Program} {K : TypeId} {q : IntKind} (hd : P.underlying K = some (.int q)) : KeyOk P K (Value.int q) where
  check w em x := MapKept.run_checkKey hd (d := .int q) (by simp [MapKept.IsKey]) em 9999
  find w x es hes := by
    rcases MapKept.findNow_spec (d := .int q) (k := .int q x) (by simp [MapKept.IsKey]) es 0 (fun e he => by obtain ⟨y, hy⟩ := hes e he; rw [hy]; simp [MapKept.IsKey]) with ⟨h1, h2⟩ | ⟨j, e0, h1, h2, h3⟩
    · exact .inl ⟨MapKept.run_findKey hd h1, h2⟩
    · exact .inr ⟨j, e0, by simpa using MapKept.run_findKey hd h1, h2, h3⟩
  stays w x := MapKept.run_keyThatStays (d := .int q) (by simp [MapKept.IsKey])
  inj x y h := by cases h; rfl
section
variable {α β : Type}
def Stamps (es : Array MapEntry) (c : Nat) : Prop := (∀ e ∈ es.toList, e.born < c) ∧ (es.toList.map (·.born)).Nodup
@[simp] theorem Stamps.empty (c : Nat) : Stamps #[] c := by simp [Stamps]
theorem Stamps.push {es : Array MapEntry} {c c' : Nat} (h : Stamps es c) (k v : Value) (hc : c < c') : Stamps (es.push { key := k, val := v, born := c }) c' := by
  constructor
  · intro e he
    simp at he
    rcases he with he | rfl
    · have := h.1 e (by simpa using he); omega
    · simpa using hc
  · simp only [Array.toList_push, List.map_append, List.map_cons, List.map_nil, List.nodup_append]
    refine ⟨h.2, by simp, fun a ha b hb => ?_⟩
    simp at hb
    obtain ⟨e, he, rfl⟩ := List.mem_map.1 ha
    have := h.1 e he
    omega
theorem Stamps.modify {es : Array MapEntry} {c : Nat} (h : Stamps es c) (j : Nat) (k v : Value) : Stamps (es.modify j fun e => { e with key := k, val := v }) c := by
  have e1 : (es.modify j fun e => { e with key := k, val := v }).toList.map (·.born) = es.toList.map (·.born) := by
    apply List.ext_getElem?
    intro i
    simp only [List.getElem?_map, Array.getElem?_toList, Array.getElem?_modify]
    split
    · cases es[i]? <;> rfl
    · rfl
  constructor
  · intro e he
    have : e.born ∈ es.toList.map (·.born) := by rw [← e1]; exact List.mem_map.2 ⟨e, he, rfl⟩
    obtain ⟨e2, h2, h3⟩ := List.mem_map.1 this
    rw [← h3]
    exact h.1 e2 h2
  · rw [e1]; exact h.2
def MapOf (kf : α → Value) (vf : β → Value) (w : World) (m : Nat) (l : List (α × β)) : Prop :=
  ∃ es c, w.heap[m]? = some (.map es c) ∧ es.toList.map (fun e => (e.key, e.val)) = l.map (fun x => (kf x.1, vf x.2)) ∧ Stamps es c ∧ (l.map Prod.fst).Nodup
def setKV [DecidableEq α] (l : List (α × β)) (k : α) (v : β) : List (α × β) := if (l.lookup k).isSome then l.map (fun x => if x.1 = k then (k, v) else x) else l ++ [(k, v)]
def delKV [DecidableEq α] (l : List (α × β)) (k : α) : List (α × β) := l.filter (fun x => decide (x.1 ≠ k))
theorem lookup_none [DecidableEq α] {l : List (α × β)} {k : α} : l.lookup k = none ↔ ∀ x ∈ l, x.1 ≠ k := by
  induction l with
  | nil => simp
  | cons x l ih =>
    obtain ⟨a, b⟩ := x
    simp only [List.lookup_cons]
    by_cases h : k = a
    · subst h; simp
    · have h' : (k == a) = false := by simpa using h
      rw [h']
      simp only [ih]
      constructor
      · intro hh y hy
        rcases List.mem_cons.1 hy with rfl | hy
        · exact fun e => h e.symm
        · exact hh y hy
      · exact fun hh y hy => hh y (List.mem_cons_of_mem _ hy)
theorem lookup_at [DecidableEq α] {l : List (α × β)} {k : α} {v : β} (hn : (l.map Prod.fst).Nodup) {j : Nat} (h : l[j]? = some (k, v)) : l.lookup k = some v := by
  induction l generalizing j with
  | nil => simp at h
  | cons x l ih =>
    obtain ⟨a, b⟩ := x
    simp only [List.map_cons, List.nodup_cons] at hn
    simp only [List.lookup_cons]
    cases j with
    | zero => simp at h; obtain ⟨rfl, rfl⟩ := h; simp
    | succ j =>
      have h' : l[j]? = some (k, v) := by simpa using h
      have hm : (k, v) ∈ l := List.mem_of_getElem? h'
      have hka : (k == a) = false := by
        simp only [beq_eq_false_iff_ne]
        intro e
        subst e
        exact hn.1 (List.mem_map.2 ⟨_, hm, rfl⟩)
      rw [hka]
      exact ih hn.2 h'
theorem nodup_set [DecidableEq α] {l : List (α × β)} {k : α} {v : β} (hn : (l.map Prod.fst).Nodup) : ((setKV l k v).map Prod.fst).Nodup := by
  unfold setKV
  split
  · have : (l.map (fun x => if x.1 = k then (k, v) else x)).map Prod.fst = l.map Prod.fst := by
      rw [List.map_map]
      refine List.map_congr_left fun x _ => ?_
      simp only [Function.comp]
      split
      · rename_i h; exact h.symm
      · rfl
    rw [this]; exact hn
  · rename_i h
    have h' : l.lookup k = none := by
      cases hh : l.lookup k with
      | none => rfl
      | some y => rw [hh] at h; simp at h
    rw [lookup_none] at h'
    rw [List.map_append, List.nodup_append]
    refine ⟨hn, by simp, fun a ha b hb => ?_⟩
    simp at hb
    obtain ⟨x, hx, rfl⟩ := List.mem_map.1 ha
    rw [hb]
    exact h' x hx
def setObj (w : World) (m : Nat) (o : Obj) : World := { w with heap := w.heap.setIfInBounds m o }
theorem Mod.setObj {S : Nat → Prop} {a w : World} (h : Mod S a w) {m : Nat} (hm : S m ∨ a.heap.size ≤ m) (o : Obj) : Mod S a (setObj w m o) :=
  ⟨h.os, h.tape, h.output, by simpa [Burg.setObj] using h.size, fun k hk hn => by
    have hne : m ≠ k := fun e => by subst e; rcases hm with hm | hm; exact hn hm; omega
    simp only [Burg.setObj, Array.getElem?_setIfInBounds_ne hne]
    exact h.block k hk hn⟩
theorem heap_setObj {w : World} {m : Nat} {o o' : Obj} (h : w.heap[m]? = some o) : (setObj w m o').heap[m]? = some o' := by
  have := lt_of_block h
  simp [setObj, this]
variable {kf : α → Value} {vf : β → Value} {P : Program} {K E T : TypeId} {w : World} {m : Nat} {l : List (α × β)}
theorem MapOf.lt (h : MapOf kf vf w m l) : m < w.heap.size := by obtain ⟨es, c, h1, _⟩ := h; exact lt_of_block h1
theorem MapOf.same {w' : World} (h : MapOf kf vf w m l) (hb : w'.heap[m]? = w.heap[m]?) : MapOf kf vf w' m l := by
  obtain ⟨es, c, h1, h2⟩ := h
  exact ⟨es, c, hb.trans h1, h2⟩
theorem MapOf.alloc (h : MapOf kf vf w m l) (o : Obj) : MapOf kf vf (w.alloc o) m l := h.same (Below.heap_alloc _ _ _ h.lt)
theorem MapOf.setCell (h : MapOf kf vf w m l) {a : Addr} (ha : m ≠ a.block) (v : Value) : MapOf kf vf (w.setCell a v) m l := h.same (Below.heap_setCell _ _ _ _ ha)
theorem MapOf.mod {S : Nat → Prop} {w' : World} (h : MapOf kf vf w m l) (hm : Mod S w w') (hs : ¬ S m) : MapOf kf vf w' m l := h.same (hm.block m h.lt hs)
theorem MapOf.below {B : Nat} {w' : World} (h : MapOf kf vf w m l) (hm : Below B w w') (hs : m < B) : MapOf kf vf w' m l := h.same (hm.block m hs)
theorem entry_at {es : List MapEntry} (h : es.map (fun e => (e.key, e.val)) = l.map (fun x => (kf x.1, vf x.2))) {j : Nat} {e : MapEntry} (he : es[j]? = some e) : ∃ x, l[j]? = some x ∧ e.key = kf x.1 ∧ e.val = vf x.2 := by
  have h1 := congrArg (·[j]?) h
  simp only [List.getElem?_map, he, Option.map_some] at h1
  cases hx : l[j]? with
  | none => rw [hx] at h1; simp at h1
  | some x =>
    rw [hx] at h1
    simp at h1
    exact ⟨x, rfl, h1.1, h1.2⟩
theorem entry_of {es : List MapEntry} (h : es.map (fun e => (e.key, e.val)) = l.map (fun x => (kf x.1, vf x.2))) : ∀ x ∈ l, ∃ e ∈ es, e.key = kf x.1 := by
  intro x hx
  have : (kf x.1, vf x.2) ∈ es.map (fun e => (e.key, e.val)) := by rw [h]; exact List.mem_map.2 ⟨x, hx, rfl⟩
  obtain ⟨e, he, heq⟩ := List.mem_map.1 this
  exact ⟨e, he, by simpa using congrArg Prod.fst heq⟩
theorem MapOf.found [DecidableEq α] (KO : KeyOk P K kf) {es : Array MapEntry} (h : es.toList.map (fun e => (e.key, e.val)) = l.map (fun x => (kf x.1, vf x.2))) (hn : (l.map Prod.fst).Nodup) (w : World) (k : α) :
    ((Instr.findKey K (kf k) es.toList).run P w = .ok none w ∧ l.lookup k = none) ∨
    ∃ j e v, (Instr.findKey K (kf k) es.toList).run P w = .ok (some (j, vf v)) w ∧ es[j]? = some e ∧ e.key = kf k ∧ l[j]? = some (k, v) ∧ l.lookup k = some v := by
  have hall : ∀ e ∈ es.toList, ∃ y, e.key = kf y := fun e he => by
    obtain ⟨j, hj, hje⟩ := List.getElem_of_mem he
    obtain ⟨x, _, hx, _⟩ := entry_at h (by rw [List.getElem?_eq_getElem hj, hje])
    exact ⟨x.1, hx⟩
  rcases KO.find w k es.toList hall with ⟨h1, h2⟩ | ⟨j, e, h1, h2, h3⟩
  · refine .inl ⟨h1, lookup_none.2 fun x hx he => ?_⟩
    obtain ⟨e, hm, hk⟩ := entry_of h x hx
    exact h2 e hm (by rw [hk, he])
  · obtain ⟨x, hx, hxk, hxv⟩ := entry_at h h2
    have hk : x.1 = k := KO.inj _ _ (hxk.symm.trans h3)
    obtain ⟨x1, x2⟩ := x
    simp at hk
    subst hk
    exact .inr ⟨j, e, x2, by rw [h1, hxv], by simpa using h2, h3, hx, lookup_at hn hx⟩
theorem MapOf.lookup [DecidableEq α] (KO : KeyOk P K kf) (hT : P.underlying T = some (.map K E)) {z : Value} (hz : ∀ w, (zeroValue E).run P w = .ok z w) (h : MapOf kf vf w m l) (k : α) (ok : Bool) :
    (Instr.lookup T (.map (some m)) (kf k) ok).run P w = .ok (if ok then .tuple #[((l.lookup k).map vf).getD z, .bool (l.lookup k).isSome] else ((l.lookup k).map vf).getD z) w := by
  obtain ⟨es, c, h1, h2, h3, h4⟩ := h
  rcases MapOf.found KO h2 h4 w k with ⟨hf, hl⟩ | ⟨j, e, v, hf, _, _, _, hl⟩
  · simp [Instr.lookup, run_underlying hT, MapKept.run_getObj_map h1, KO.check, hf, hz, hl, Result.andThen]
  · simp [Instr.lookup, run_underlying hT, MapKept.run_getObj_map h1, KO.check, hf, hl, Result.andThen]
theorem MapOf.len (hT : P.underlying T = some (.map K E)) (h : MapOf kf vf w m l) (ty : TypeId) : (Builtin.len_ #[T] ty #[.map (some m)]).run P w = .ok (.int .i64 l.length) w := by
  obtain ⟨es, c, h1, h2, _⟩ := h
  have hlen : es.size = l.length := by simpa using congrArg List.length h2
  simp [Builtin.len_, run_underlying hT, MapKept.run_getObj_map h1, Result.andThen, goInt, hlen]
theorem MapOf.store [DecidableEq α] (KO : KeyOk P K kf) (hT : P.underlying T = some (.map K E)) (h : MapOf kf vf w m l) (k : α) (v : β) :
    ∃ w', (Instr.mapUpdate T (.map (some m)) (kf k) (vf v)).run P w = .ok () w' ∧ MapOf kf vf w' m (setKV l k v) ∧ Mod (· = m) w w' := by
  obtain ⟨es, c, h1, h2, h3, h4⟩ := h
  rcases MapOf.found KO h2 h4 w k with ⟨hf, hl⟩ | ⟨j, e, v0, hf, hj, hk, hlj, hl⟩
  · refine ⟨Burg.setObj w m (.map (es.push { key := kf k, val := vf v, born := c }) (c + 1)), ?_, ⟨_, _, heap_setObj h1, ?_, ?_, nodup_set h4⟩, Mod.setObj (S := (· = m)) (Mod.refl _ _) (.inl rfl) _⟩
    · simp [Instr.mapUpdate, run_underlying hT, MapKept.run_getObj_map h1, KO.check, hf, MapKept.run_setObj_map _ h1, Result.andThen, Burg.setObj]
    · simp [setKV, hl, h2]
    · exact h3.push _ _ (by omega)
  · have hj' : j < es.size := (Array.getElem?_eq_some_iff.1 hj).1
    refine ⟨Burg.setObj w m (.map (es.modify j fun e => { e with key := kf k, val := vf v }) c), ?_, ⟨_, _, heap_setObj h1, ?_, ?_, nodup_set h4⟩, Mod.setObj (S := (· = m)) (Mod.refl _ _) (.inl rfl) _⟩
    · simp [Instr.mapUpdate, run_underlying hT, MapKept.run_getObj_map h1, KO.check, hf, hj, hk, KO.stays, MapKept.run_setObj_map _ h1, Result.andThen, Burg.setObj]
    · simp only [setKV, hl, Option.isSome_some, if_true]
      apply List.ext_getElem?
      intro i
      have h5 := congrArg (·[i]?) h2
      simp only [List.getElem?_map] at h5 ⊢
      by_cases hij : j = i
      · subst hij
        simp [hj, hlj]
      · have h6 : (es.modify j fun e => { e with key := kf k, val := vf v }).toList[i]? = es.toList[i]? := by
          simp [hij]
        rw [h6, h5]
        cases hx : l[i]? with
        | none => simp
        | some x =>
          have hne : x.1 ≠ k := fun he => by
            have h7 : (l.map Prod.fst)[i]? = (l.map Prod.fst)[j]? := by simp [hx, hlj, he]
            have hi' : i < (l.map Prod.fst).length := by
              have := (List.getElem?_eq_some_iff.1 hx).1
              simpa using this
            exact hij (((List.getElem?_inj hi' h4).1 h7).symm)
          simp [hne]
    · exact h3.modify j _ _
theorem MapOf.new {t : TypeId} (w : World) : ∃ w', (Instr.makeMap t none).run P w = .ok (.map (some w.heap.size)) w' ∧ w' = w.alloc (.map #[] 0) ∧ MapOf kf vf w' w.heap.size ([] : List (α × β)) :=
  ⟨w.alloc (.map #[] 0), by simp [Instr.makeMap, Result.andThen], rfl, #[], 0, heap_new _ _, by simp, by simp, by simp⟩
def MapNew (kf : α → Value) (vf : β → Value) (w : World) (m : Nat) (l : List (α × β)) (k : α) (v : β) (s : Nat) : Prop :=
  ∃ (es : Array MapEntry) (c : Nat), w.heap[m]? = some (.map (es.push { key := kf k, val := vf v, born := s }) c) ∧ es.toList.map (fun e => (e.key, e.val)) = l.map (fun x => (kf x.1, vf x.2)) ∧ Stamps es s ∧ s < c ∧ ((l ++ [(k, v)]).map Prod.fst).Nodup
def ClockAt (w : World) (m : Nat) (c : Nat) : Prop := ∃ es, w.heap[m]? = some (.map es c)
theorem ClockAt.same {w' : World} {c : Nat} (h : ClockAt w m c) (hb : w'.heap[m]? = w.heap[m]?) : ClockAt w' m c := by obtain ⟨es, h1⟩ := h; exact ⟨es, hb.trans h1⟩
theorem MapNew.same {w' : World} {k : α} {v : β} {s : Nat} (h : MapNew kf vf w m l k v s) (hb : w'.heap[m]? = w.heap[m]?) : MapNew kf vf w' m l k v s := by
  obtain ⟨es, c, h1, h2⟩ := h
  exact ⟨es, c, hb.trans h1, h2⟩
theorem MapOf.entry [DecidableEq α] (KO : KeyOk P K kf) (hT : P.underlying T = some (.map K E)) {z : β} (hz : ∀ w, (zeroValue E).run P w = .ok (vf z) w) (h : MapOf kf vf w m l) {s : Nat} (hc : ClockAt w m s) (k : α) (hk : l.lookup k = none) :
    ∃ w', (Instr.mapEntry T (.map (some m)) (kf k)).run P w = .ok (.tuple #[vf z, .int .i64 s]) w' ∧ MapNew kf vf w' m l k z s ∧ Mod (· = m) w w' := by
  obtain ⟨es, c, h1, h2, h3, h4⟩ := h
  obtain ⟨es', h1'⟩ := hc
  rw [h1] at h1'
  obtain ⟨rfl, rfl⟩ : es = es' ∧ c = s := by simpa using h1'
  rcases MapOf.found KO h2 h4 w k with ⟨hf, hl⟩ | ⟨j, e, v0, hf, hj, hk', hlj, hl⟩
  · refine ⟨Burg.setObj w m (.map (es.push { key := kf k, val := vf z, born := c }) (c + 1)), ?_, ⟨es, c + 1, heap_setObj h1, h2, h3, by omega, ?_⟩, Mod.setObj (S := (· = m)) (Mod.refl _ _) (.inl rfl) _⟩
    · simp [Instr.mapEntry, run_underlying hT, MapKept.run_getObj_map h1, KO.check, hf, hz, MapKept.run_setObj_map _ h1, Result.andThen, Burg.setObj, goInt]
    · rw [List.map_append, List.nodup_append]
      refine ⟨h4, by simp, fun a ha b hb => ?_⟩
      simp at hb
      obtain ⟨x, hx, rfl⟩ := List.mem_map.1 ha
      rw [hb]
      exact lookup_none.1 hl x hx
  · rw [hk] at hl; cases hl
theorem MapNew.fill {k : α} {v : β} {s : Nat} (h : MapNew kf vf w m l k v s) (v' : β) :
    ∃ w', (Instr.entryStore T (.map (some m)) (.int .i64 s) (vf v')).run P w = .ok () w' ∧ MapOf kf vf w' m (l ++ [(k, v')]) ∧ Mod (· = m) w w' := by
  obtain ⟨es, c, h1, h2, h3, h4, h5⟩ := h
  have hidx : (es.push { key := kf k, val := vf v, born := s }).findIdx? (fun e => (e.born : Int) == (s : Int)) = some es.size := by
    rw [Array.findIdx?_eq_some_iff_getElem]
    refine ⟨by simp, by simp, fun j hj => ?_⟩
    have := h3.1 es[j] (by simp)
    simp only [Array.getElem_push_lt hj]
    simp
    omega
  refine ⟨Burg.setObj w m (.map ((es.push { key := kf k, val := vf v, born := s }).modify es.size fun e => { e with val := vf v' }) c), ?_, ⟨_, c, heap_setObj h1, ?_, ?_, ?_⟩, Mod.setObj (S := (· = m)) (Mod.refl _ _) (.inl rfl) _⟩
  · simp [Instr.entryStore, asInt, asIntOf, MapKept.run_getObj_map h1, hidx, MapKept.run_setObj_map _ h1, Result.andThen, Burg.setObj]
  · have : ((es.push { key := kf k, val := vf v, born := s }).modify es.size fun e => { e with val := vf v' }) = es.push { key := kf k, val := vf v', born := s } := by
      apply Array.ext
      · simp
      · intro i h6 h7
        simp only [Array.getElem_modify, Array.getElem_push]
        split
        · rename_i he; subst he; simp
        · rename_i he
          have hlt : i < es.size := by simp at h7; omega
          simp [hlt]
    rw [this]
    simp [h2]
  · have : ((es.push { key := kf k, val := vf v, born := s }).modify es.size fun e => { e with val := vf v' }) = ((es.push { key := kf k, val := vf v, born := s }).modify es.size fun e => { e with key := kf k, val := vf v' }) := by
      apply Array.ext
      · simp
      · intro i h6 h7
        simp only [Array.getElem_modify, Array.getElem_push]
        split
        · rename_i he; subst he; simp
        · rfl
    rw [this]
    exact (h3.push _ _ h4).modify _ _ _
  · simpa using h5
end
section
variable {α β : Type} {kf : α → Value} {vf : β → Value} {P : Program} {K E T : TypeId} {w : World} {m : Nat} {l : List (α × β)}
variable {ops : Array Oper} {rest : List Oper} {o : Oper} {a : Act} {Q : Exit → Act → World → Prop}
theorem wpList_store_map [DecidableEq α] (hg : o.guard = none) (M X V : Operand) (T : TypeId) (hop : o.op = Op.mapUpdate T M X V) (KO : KeyOk P K kf)
    (hT : P.underlying T = some (.map K E)) (hM : a.eval M = .map (some m)) (k : α) (hX : a.eval X = kf k) (v : β) (hV : a.eval V = vf v) (h : MapOf kf vf w m l)
    (hK : ∀ w', MapOf kf vf w' m (setKV l k v) → Mod (· = m) w w' → wpList P ops Q rest (a.put o.dst undef) w') : wpList P ops Q (o :: rest) a w := by
  refine wpList_plain hg fun K' hK' => ?_
  obtain ⟨w', hrun, r1, r2⟩ := h.store KO hT k v
  unfold Oper.wp
  simp [execOp, hop, hM, hX, hV, hrun, Result.andThen]
  exact hK' _ _ (hK w' r1 r2)
end
end Go.Burg

namespace Go.Burg
open Go
theorem KeyOk.ofLaw {α : Type} {P : Program} {K : TypeId} {kf : α → Value} (KL : WideMaps.KeyLaw P K) (hk : ∀ x, ∃ l, keyOf P K (kf x) = some l) (hi : ∀ x y, kf x = kf y → x = y) : KeyOk P K kf where
  check w em x := by obtain ⟨l, hl⟩ := hk x; exact KL.check w em hl
  find w x es hes := by
    obtain ⟨l, hl⟩ := hk x
    exact KL.find w hl es (fun e he => by obtain ⟨y, hy⟩ := hes e he; rw [hy]; exact hk y)
  stays w x := by obtain ⟨l, hl⟩ := hk x; exact KL.stays w hl
  inj := hi
end Go.Burg
namespace Go.Proofs.YtnngicopphiaaaaGreatDoor
open Go.Burg
abbrev RefK := { r : Int × Int // (Lit.int .i64 r.1).wf = true ∧ (Lit.int .u32 r.2).wf = true }
def refV (r : RefK) : Value := .agg #[.int .i64 r.1.1, .int .u32 r.1.2]
theorem ref_lits (n : Nat) (r : RefK) : Tryz.prog.keyLits (n + 2) 30 [.int .i64 r.1.1, .int .u32 r.1.2] = some [.int .i64 r.1.1, .int .u32 r.1.2] := by
  have c1 : Tryz.prog.cellsOf 30 = 2 := by kernel_rfl
  have c2 : Tryz.prog.cellsOf 3 = 1 := by kernel_rfl
  have c3 : Tryz.prog.cellsOf 28 = 1 := by kernel_rfl
  simp [Program.keyLits, Tryz.underlying30, Tryz.underlying3, Tryz.underlying28, c1, c2, c3, r.2.1, r.2.2]
theorem ref_key (r : RefK) : ∃ l, keyOf Tryz.prog 30 (refV r) = some l := by
  have c1 : Tryz.prog.cellsOf 30 = 2 := by kernel_rfl
  have hk : Tryz.prog.keyType 30 = true := of_decide_eq_true (by kernel_rfl)
  have h1 : 1 ≤ Tryz.prog.types.size := of_decide_eq_true (by kernel_rfl)
  obtain ⟨n, hn⟩ : ∃ n, Tryz.prog.types.size + 1 = n + 2 := ⟨Tryz.prog.types.size - 1, by omega⟩
  refine ⟨.string (keyBytes [.int .i64 r.1.1, .int .u32 r.1.2]), ?_⟩
  unfold keyOf
  simp only [Tryz.underlying30, hk, hn]
  simp [refV, Value.formed, Tryz.underlying30, c1, Value.cells, ref_lits]
theorem refKey : KeyOk Tryz.prog 30 refV := by
  refine KeyOk.ofLaw (deep_law_gate (by kernel_rfl) (of_decide_eq_true (by kernel_rfl)) (of_decide_eq_true (by kernel_rfl)) (by kernel_rfl) (by kernel_rfl)) ref_key (fun x y h => ?_)
  obtain ⟨⟨a, b⟩, hx⟩ := x
  obtain ⟨⟨c, d⟩, hy⟩ := y
  simp [refV] at h
  exact Subtype.ext (Prod.ext h.1 h.2)
end Go.Proofs.YtnngicopphiaaaaGreatDoor
