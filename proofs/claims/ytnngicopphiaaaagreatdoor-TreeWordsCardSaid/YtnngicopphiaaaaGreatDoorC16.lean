/- Part 16 of 51 of a proof: lemmas on the functions that it reaches. -/
import Derived.Test.YtnngicopphiaaaaGreatDoorC14
import Derived.Test.YtnngicopphiaaaaGreatDoorC15
namespace Go.Burg
open Go Go.RowKit
def MineOf (c7 : Nat) (W : World) (i : Nat) : Prop := (∃ n c, W.cell? ⟨c7, 4, none⟩ = some (.slice (some ⟨i, 0, none⟩) n c)) ∨ (∃ n c, W.cell? ⟨c7, 5, none⟩ = some (.slice (some ⟨i, 0, none⟩) n c))
theorem mineOf_ok {c7 n₀ : Nat} (h : c7 < n₀) : MineOk n₀ (MineOf c7) := ⟨fun {W W' row i} hn hg hr hm => by
  have e : W'.heap[c7]? = W.heap[c7]? := hg.block c7 (by omega) (fun e => by have := (hr _ e.symm).1; omega)
  rcases hm with ⟨n, c, hm⟩ | ⟨n, c, hm⟩
  · exact .inl ⟨n, c, (World.cell?_of_block (w := W) e).symm.trans hm⟩
  · exact .inr ⟨n, c, (World.cell?_of_block (w := W) e).symm.trans hm⟩⟩
end Go.Burg
namespace Go.Proofs.YtnngicopphiaaaaGreatDoor.O
set_option maxRecDepth 8000
open Go.ChangeShapes Go.WideShapes Go.ChangeAt Go.RowKit Go.Burg Go.Shelf
attribute [local go_sem] Oper.semAt_some
def KidsK (w : World) (v : Value) (L : List Kd) : Prop := (∃ x r, v = .iface 195 (.pointer (some ⟨x, 0, none⟩)) ∧ FewL 212 w x L r) ∨ (∃ x gr gu r, v = .iface 198 (.pointer (some ⟨x, 0, none⟩)) ∧ ManyK 219 30 4 w x gr gu r L)
section
variable {w w' : World} {k k' : Nat} {pt : ByteArray} {ya za : Option Addr} {yn yc zn zc : Nat} {L : List Kd}
theorem own_form {w : World} {B : Nat} {e : TypeId} {s n : Nat} {v : Value} {xs : List Value} (h : w.ownsRow B e s v n xs) : ∃ a n c, v = .slice a n c := by
  obtain ⟨_, ⟨rfl, _⟩ | ⟨g, cap, cur, rfl, _⟩⟩ := h
  · exact ⟨_, _, _, rfl⟩
  · exact ⟨_, _, _, rfl⟩
theorem of_end {n₀ u : Nat} {pre : List Kd} {y : Kd} {W w1 : World} {yv zv : Value} {tab : Nat → Value} {D : Nat → Bool} {xs : Nat → Value} (hn : n₀ = u + 1 + 1 + 1 + 1) (hD : ∀ j, j < 14 → D j = true)
    (hJ : OfJ W (u + 1 + 1) (u + 1 + 1 + 1 + 1) pre.length (.int .i64 k') pt yv zv (bytesL pre) (kidsL pre) y.b y.s y.g tab D xs w1)
    (hc : W.heap[u + 1 + 1]? = some (.cells #[.int .i64 k', .string ⟨#[]⟩, .string ⟨#[]⟩, .string pt, yv, zv] 53 (0, 0))) (hy : W.ownsRow (u + 1 + 1 + 1 + 1) 5 1 yv pre.length (bytesL pre)) (hz : W.ownsRow (u + 1 + 1 + 1 + 1) 30 2 zv pre.length (kidsL pre))
    (h6 : W.heap[u + 1]? = some (.cells #[.int .i64 0, .string ⟨#[]⟩, .string ⟨#[]⟩, .string ⟨#[]⟩, .slice none 0 0, .slice none 0 0] 53 (0, 0))) (hb : Below u w W) (hsz : u + 1 + 1 + 1 + 1 ≤ W.heap.size) : KeepsFrom n₀ W w1 ∧ KpM n₀ (MineOf (u + 1 + 1)) W w1 ∧ (fun (pre : List Kd) W => (∃ yv zv, W.heap[u + 1 + 1]? = some (.cells #[.int .i64 k', .string ⟨#[]⟩, .string ⟨#[]⟩, .string pt, yv, zv] 53 (0, 0)) ∧ W.ownsRow (u + 1 + 1 + 1 + 1) 5 1 yv pre.length (bytesL pre) ∧ W.ownsRow (u + 1 + 1 + 1 + 1) 30 2 zv pre.length (kidsL pre)) ∧ W.heap[u + 1]? = some (.cells #[.int .i64 0, .string ⟨#[]⟩, .string ⟨#[]⟩, .string ⟨#[]⟩, .slice none 0 0, .slice none 0 0] 53 (0, 0)) ∧ Below u w W ∧ u + 1 + 1 + 1 + 1 ≤ W.heap.size) (pre ++ [y]) w1 := by
  subst hn
  have hblk : ∀ {v : Value} {e : TypeId} {s n k : Nat} {xs : List Value}, W.ownsRow (u + 1 + 1 + 1 + 1) e s v n xs → v.ownBlock = some k → (∃ n' c, v = .slice (some ⟨k, 0, none⟩) n' c) ∧ ∃ o : Obj, W.heap[k]? = some o ∧ o.isCells = true := fun h e => by
    obtain ⟨_, ⟨rfl, _⟩ | ⟨g, cap, cur, rfl, _, hg, _⟩⟩ := h
    · simp [Value.ownBlock] at e
    · simp only [Value.ownBlock, Option.some.injEq] at e; subst e; exact ⟨⟨_, _, rfl⟩, _, hg, rfl⟩
  have hfo : ∀ {v : Value} {k : Nat}, v.ownBlock = some k → ∀ {e : TypeId} {s n : Nat} {xs : List Value} {A : World}, A.ownsRow (u + 1 + 1 + 1 + 1) e s v n xs → ∃ n' c, v = .slice (some ⟨k, 0, none⟩) n' c := fun e _ _ _ _ _ h => by
    obtain ⟨_, ⟨rfl, _⟩ | ⟨g, cap, cur, rfl, _, hg, _⟩⟩ := h
    · simp [Value.ownBlock] at e
    · simp only [Value.ownBlock, Option.some.injEq] at e; subst e; exact ⟨_, _, rfl⟩
  have d4 := hD 4 (by omega)
  have d9 := hD 9 (by omega)
  have d11 := hD 11 (by omega)
  have d13 := hD 13 (by omega)
  have hc1 := hJ.c
  have hy1 := hJ.y
  have hz1 := hJ.z
  have hy2 := hJ.y2 d4
  have hz2 := hJ.z2 d9
  rw [d11, d13] at hc1
  rw [d4] at hy1
  rw [d9] at hz1
  simp only [cond_true] at hc1 hy1 hz1
  refine ⟨⟨hJ.m.size, fun k o hk ho hoc => ?_⟩, ⟨hJ.m.size, fun i o hi hm ho hoc => ?_, fun i hm => ?_⟩, ⟨xs 4, xs 9, hc1, ?_, ?_⟩, ?_, ?_, ?_⟩
  · refine (hJ.m.block k (lt_of_block ho) ?_).trans ho
    rintro (e | e | e)
    · omega
    · obtain ⟨_, o2, h2, h3⟩ := hblk hy e
      rw [ho] at h2; cases h2; rw [hoc] at h3; cases h3
    · obtain ⟨_, o2, h2, h3⟩ := hblk hz e
      rw [ho] at h2; cases h2; rw [hoc] at h3; cases h3
  · refine (hJ.m.block i (lt_of_block ho) ?_).trans ho
    rintro (e | e | e)
    · omega
    · obtain ⟨⟨n', c, rfl⟩, _⟩ := hblk hy e
      exact hm (.inl ⟨n', c, by rw [cell_of hc 4]; rfl⟩)
    · obtain ⟨⟨n', c, rfl⟩, _⟩ := hblk hz e
      exact hm (.inr ⟨n', c, by rw [cell_of hc 5]; rfl⟩)
  · rcases hm with ⟨n, c, hm⟩ | ⟨n, c, hm⟩
    · rw [cell_of hc1 4] at hm
      have e : xs 4 = .slice (some ⟨i, 0, none⟩) n c := by simpa using hm
      rw [e] at hy2
      rcases hy2 with e2 | ⟨a, e2, e3⟩
      · obtain ⟨⟨n', c', rfl⟩, _⟩ := hblk (k := i) hy (e2.symm.trans rfl)
        exact .inl (.inl ⟨n', c', by rw [cell_of hc 4]; rfl⟩)
      · simp only [Value.ownBlock, Option.some.injEq] at e2
        exact .inr (by omega)
    · rw [cell_of hc1 5] at hm
      have e : xs 9 = .slice (some ⟨i, 0, none⟩) n c := by simpa using hm
      rw [e] at hz2
      rcases hz2 with e2 | ⟨a, e2, e3⟩
      · obtain ⟨⟨n', c', rfl⟩, _⟩ := hblk (k := i) hz (e2.symm.trans rfl)
        exact .inl (.inr ⟨n', c', by rw [cell_of hc 5]; rfl⟩)
      · simp only [Value.ownBlock, Option.some.injEq] at e2
        exact .inr (by omega)
  · simpa [bytesL] using hy1
  · simpa [kidsL] using hz1
  · refine (hJ.m.block _ (lt_of_block h6) ?_).trans h6
    rintro (e | e | e)
    · omega
    · have := (own_ge hy e).1; omega
    · have := (own_ge hz e).1; omega
  · refine hb.trans ⟨hJ.m.os, hJ.m.tape, hJ.m.output, hJ.m.size, fun k hk => hJ.m.block k (by have := hb.size; omega) ?_⟩
    rintro (e | e | e)
    · omega
    · have := (own_ge hy e).1; omega
    · have := (own_ge hz e).1; omega
  · have := hJ.m.size; omega
theorem own_form2 {w : World} {B : Nat} {e : TypeId} {s n : Nat} {v : Value} {xs : List Value} (h : w.ownsRow B e s v n xs) : ∃ a c, v = .slice a n c := by
  obtain ⟨_, ⟨rfl, rfl⟩ | ⟨g, cap, cur, rfl, _⟩⟩ := h
  · exact ⟨_, _, rfl⟩
  · exact ⟨_, _, rfl⟩
theorem own_base {w : World} {B : Nat} {e : TypeId} {s n : Nat} {v : Value} {xs : List Value} (h : w.ownsRow B e s v n xs) : w.ownsRow 0 e s v n xs := by
  obtain ⟨h1, h2 | ⟨g, cap, cur, a, b, c⟩⟩ := h
  · exact ⟨h1, .inl h2⟩
  · exact ⟨h1, .inr ⟨g, cap, cur, a, Nat.zero_le _, c⟩⟩
theorem of_last {u D : Nat} {W : World} {M : List Kd} {vy vz : Value} (h6 : W.heap[u + 1]? = some (.cells #[.int .i64 0, .string ⟨#[]⟩, .string ⟨#[]⟩, .string ⟨#[]⟩, .slice none 0 0, .slice none 0 0] 53 (0, 0))) (hy : W.ownsRow (u + 1 + 1 + 1 + 1) 5 1 vy M.length (bytesL M)) (hz : W.ownsRow (u + 1 + 1 + 1 + 1) 30 2 vz M.length (kidsL M))
    (hb : Below u w W) (hD : u + 1 + 1 + 1 + 1 ≤ D) (hdf : W.heap[D]? = some (.deferred (some []))) :
    ((((((W.setCell ⟨u + 1, 0, none⟩ (.int .i64 k')).setCell ⟨u + 1, 1, none⟩ (.string ⟨#[]⟩)).setCell ⟨u + 1, 2, none⟩ (.string ⟨#[]⟩)).setCell ⟨u + 1, 3, none⟩ (.string pt)).setCell ⟨u + 1, 4, none⟩ vy).setCell ⟨u + 1, 5, none⟩ vz).heap[D]? = some (.deferred (some [])) ∧ (((((((W.setCell ⟨u + 1, 0, none⟩ (.int .i64 k')).setCell ⟨u + 1, 1, none⟩ (.string ⟨#[]⟩)).setCell ⟨u + 1, 2, none⟩ (.string ⟨#[]⟩)).setCell ⟨u + 1, 3, none⟩ (.string pt)).setCell ⟨u + 1, 4, none⟩ vy).setCell ⟨u + 1, 5, none⟩ vz).putObj D (.deferred none)).heap[u + 1]? = some (.cells #[.int .i64 k', .string ⟨#[]⟩, .string ⟨#[]⟩, .string pt, vy, vz] 53 (0, 0)) ∧
      (((((((W.setCell ⟨u + 1, 0, none⟩ (.int .i64 k')).setCell ⟨u + 1, 1, none⟩ (.string ⟨#[]⟩)).setCell ⟨u + 1, 2, none⟩ (.string ⟨#[]⟩)).setCell ⟨u + 1, 3, none⟩ (.string pt)).setCell ⟨u + 1, 4, none⟩ vy).setCell ⟨u + 1, 5, none⟩ vz).putObj D (.deferred none)).ownsRow 0 5 1 vy M.length (bytesL M) ∧ (((((((W.setCell ⟨u + 1, 0, none⟩ (.int .i64 k')).setCell ⟨u + 1, 1, none⟩ (.string ⟨#[]⟩)).setCell ⟨u + 1, 2, none⟩ (.string ⟨#[]⟩)).setCell ⟨u + 1, 3, none⟩ (.string pt)).setCell ⟨u + 1, 4, none⟩ vy).setCell ⟨u + 1, 5, none⟩ vz).putObj D (.deferred none)).ownsRow 0 30 2 vz M.length (kidsL M) ∧ Below u w (((((((W.setCell ⟨u + 1, 0, none⟩ (.int .i64 k')).setCell ⟨u + 1, 1, none⟩ (.string ⟨#[]⟩)).setCell ⟨u + 1, 2, none⟩ (.string ⟨#[]⟩)).setCell ⟨u + 1, 3, none⟩ (.string pt)).setCell ⟨u + 1, 4, none⟩ vy).setCell ⟨u + 1, 5, none⟩ vz).putObj D (.deferred none)) := by
  have h6' : ((((((W.setCell ⟨u + 1, 0, none⟩ (.int .i64 k')).setCell ⟨u + 1, 1, none⟩ (.string ⟨#[]⟩)).setCell ⟨u + 1, 2, none⟩ (.string ⟨#[]⟩)).setCell ⟨u + 1, 3, none⟩ (.string pt)).setCell ⟨u + 1, 4, none⟩ vy).setCell ⟨u + 1, 5, none⟩ vz).heap[u + 1]? = some (.cells #[.int .i64 k', .string ⟨#[]⟩, .string ⟨#[]⟩, .string pt, vy, vz] 53 (0, 0)) := by
    have := heap_set (i := 5) (v := vz) (heap_set (i := 4) (v := vy) (heap_set (i := 3) (v := .string pt) (heap_set (i := 2) (v := .string ⟨#[]⟩) (heap_set (i := 1) (v := .string ⟨#[]⟩) (heap_set (i := 0) (v := .int .i64 k') h6)))))
    simpa using this
  have stp : ∀ {A : World} (j : Nat) (v : Value), Mod (· = u + 1) W A → Mod (· = u + 1) W (A.setCell ⟨u + 1, j, none⟩ v) := fun j v h => Mod.setCell (S := (· = u + 1)) (p := ⟨u + 1, j, none⟩) h (.inl rfl) v
  have hM : Mod (· = u + 1) W ((((((W.setCell ⟨u + 1, 0, none⟩ (.int .i64 k')).setCell ⟨u + 1, 1, none⟩ (.string ⟨#[]⟩)).setCell ⟨u + 1, 2, none⟩ (.string ⟨#[]⟩)).setCell ⟨u + 1, 3, none⟩ (.string pt)).setCell ⟨u + 1, 4, none⟩ vy).setCell ⟨u + 1, 5, none⟩ vz) := stp _ _ (stp _ _ (stp _ _ (stp _ _ (stp _ _ (stp _ _ (Mod.refl _ _))))))
  generalize ((((((W.setCell ⟨u + 1, 0, none⟩ (.int .i64 k')).setCell ⟨u + 1, 1, none⟩ (.string ⟨#[]⟩)).setCell ⟨u + 1, 2, none⟩ (.string ⟨#[]⟩)).setCell ⟨u + 1, 3, none⟩ (.string pt)).setCell ⟨u + 1, 4, none⟩ vy).setCell ⟨u + 1, 5, none⟩ vz) = W6 at *
  have hdf6 : W6.heap[D]? = some (.deferred (some [])) := (hM.block D (lt_of_block hdf) (by show ¬ D = u + 1; omega)).trans hdf
  have hM2 : Mod (fun k => k = u + 1 ∨ k = D) W (W6.putObj D (.deferred none)) := ⟨hM.os, hM.tape, hM.output, by simpa using hM.size, fun k hk hn => (World.putObj_heap_other (fun e => hn (.inr e))).trans (hM.block k hk (fun e => hn (.inl e)))⟩
  have hno : ∀ {v : Value} {e : TypeId} {s n : Nat} {xs : List Value}, W.ownsRow (u + 1 + 1 + 1 + 1) e s v n xs → ∀ k, v.ownBlock = some k → ¬ (k = u + 1 ∨ k = D) := fun h k e => by
    rintro (rfl | rfl)
    · have := (own_ge h e).1; omega
    · obtain ⟨_, ⟨rfl, _⟩ | ⟨g, cap, cur, rfl, _, hg, _⟩⟩ := h
      · simp [Value.ownBlock] at e
      · simp only [Value.ownBlock, Option.some.injEq] at e; subst e; rw [hdf] at hg; cases hg
  exact ⟨hdf6, (World.putObj_heap_other (by omega)).trans h6', own_base (own_mod hy hM2 (hno hy)), own_base (own_mod hz hM2 (hno hz)), hb.trans ⟨hM2.os, hM2.tape, hM2.output, hM2.size, fun k hk => hM2.block k (by have := lt_of_block h6; omega) (by show ¬ (k = u + 1 ∨ k = D); omega)⟩⟩
set_option maxRecDepth 100000 in
set_option maxHeartbeats 8000000 in
theorem of_few (x r : Nat) (hL : L.length ≤ 256) (hK : FewL 212 w x L r) :
    Calls Tryz.prog 84 #[(.agg #[.int .i64 k, .string ⟨#[]⟩, .string ⟨#[]⟩, .string pt, .slice ya yn yc, .slice za zn zc]), .iface 195 (.pointer (some ⟨x, 0, none⟩)), .int .i64 k'] w fun e w' => ∃ ya' yc' za' zc', e = .returned (.agg #[.int .i64 k', .string ⟨#[]⟩, .string ⟨#[]⟩, .string pt, .slice ya' L.length yc', .slice za' L.length zc']) ∧
      w'.ownsRow 0 5 1 (.slice ya' L.length yc') L.length (bytesL L) ∧ w'.ownsRow 0 30 2 (.slice za' L.length zc') L.length (kidsL L) ∧ Below w.heap.size w w' := by
  have hmt : ∀ (w : World) (b : Nat), (method 369 195 (.pointer (some ⟨b, 0, none⟩)) "All").run Tryz.prog w = .ok (166, .pointer (some ⟨b, 0, none⟩)) w := fun w b => by kernel_rfl
  have hmf : ∀ (fn : Fn) (first cap : Array Value) (w : World), (Instr.makeFunc fn first cap).run Tryz.prog w = .ok (.func fn first cap) w := fun _ _ _ _ => rfl
  refine (callsIn_wide (n := 8)).1 ?_
  refine callsIn_of_wp_marks Tryz.func84 rfl trivial ?_ rfl
  refine wpIn_wide.2 ?_
  simp only [Tryz.ntmps84, List.size_toArray, List.length_cons, List.length_nil, Nat.reduceAdd, Nat.reduceSub, Array.replicate_succ, Array.replicate_zero, List.push_toArray, List.append_toArray, List.nil_append, List.cons_append]
  go_wp2_with fail
  refine (F.all_at _).mono ?_
  rintro e w1 ⟨rfl, rfl⟩
  have hs1 : (w.alloc (.cells #[.int .i64 k, .string ⟨#[]⟩, .string ⟨#[]⟩, .string pt, .slice ya yn yc, .slice za zn zc] 136 (0, 0))).heap.size = w.heap.size + 1 := by simp
  have hs2 : ((w.alloc (.cells #[.int .i64 k, .string ⟨#[]⟩, .string ⟨#[]⟩, .string pt, .slice ya yn yc, .slice za zn zc] 136 (0, 0))).alloc (.cells #[.int .i64 0, .string ⟨#[]⟩, .string ⟨#[]⟩, .string ⟨#[]⟩, .slice none 0 0, .slice none 0 0] 53 (0, 0))).heap.size = w.heap.size + 1 + 1 := by simp
  have hs3 : (((w.alloc (.cells #[.int .i64 k, .string ⟨#[]⟩, .string ⟨#[]⟩, .string pt, .slice ya yn yc, .slice za zn zc] 136 (0, 0))).alloc (.cells #[.int .i64 0, .string ⟨#[]⟩, .string ⟨#[]⟩, .string ⟨#[]⟩, .slice none 0 0, .slice none 0 0] 53 (0, 0))).alloc (.cells #[.int .i64 k', .string ⟨#[]⟩, .string ⟨#[]⟩, .string pt, .slice none 0 0, .slice none 0 0] 53 (0, 0))).heap.size = w.heap.size + 1 + 1 + 1 := by simp
  have hs4 : ((((w.alloc (.cells #[.int .i64 k, .string ⟨#[]⟩, .string ⟨#[]⟩, .string pt, .slice ya yn yc, .slice za zn zc] 136 (0, 0))).alloc (.cells #[.int .i64 0, .string ⟨#[]⟩, .string ⟨#[]⟩, .string ⟨#[]⟩, .slice none 0 0, .slice none 0 0] 53 (0, 0))).alloc (.cells #[.int .i64 k', .string ⟨#[]⟩, .string ⟨#[]⟩, .string pt, .slice none 0 0, .slice none 0 0] 53 (0, 0))).alloc (.cells #[.pointer (some ⟨x, 0, none⟩)] 195 (0, 0))).heap.size = w.heap.size + 1 + 1 + 1 + 1 := by simp
  have b6 := blk_alloc2 (o' := (.cells #[.pointer (some ⟨x, 0, none⟩)] 195 (0, 0))) (blk_alloc2 (o' := (.cells #[.int .i64 k', .string ⟨#[]⟩, .string ⟨#[]⟩, .string pt, .slice none 0 0, .slice none 0 0] 53 (0, 0))) (heap_new (w.alloc (.cells #[.int .i64 k, .string ⟨#[]⟩, .string ⟨#[]⟩, .string pt, .slice ya yn yc, .slice za zn zc] 136 (0, 0))) (.cells #[.int .i64 0, .string ⟨#[]⟩, .string ⟨#[]⟩, .string ⟨#[]⟩, .slice none 0 0, .slice none 0 0] 53 (0, 0))))
  have b7 := blk_alloc2 (o' := (.cells #[.pointer (some ⟨x, 0, none⟩)] 195 (0, 0))) (heap_new ((w.alloc (.cells #[.int .i64 k, .string ⟨#[]⟩, .string ⟨#[]⟩, .string pt, .slice ya yn yc, .slice za zn zc] 136 (0, 0))).alloc (.cells #[.int .i64 0, .string ⟨#[]⟩, .string ⟨#[]⟩, .string ⟨#[]⟩, .slice none 0 0, .slice none 0 0] 53 (0, 0))) (.cells #[.int .i64 k', .string ⟨#[]⟩, .string ⟨#[]⟩, .string pt, .slice none 0 0, .slice none 0 0] 53 (0, 0)))
  have b8 := heap_new (((w.alloc (.cells #[.int .i64 k, .string ⟨#[]⟩, .string ⟨#[]⟩, .string pt, .slice ya yn yc, .slice za zn zc] 136 (0, 0))).alloc (.cells #[.int .i64 0, .string ⟨#[]⟩, .string ⟨#[]⟩, .string ⟨#[]⟩, .slice none 0 0, .slice none 0 0] 53 (0, 0))).alloc (.cells #[.int .i64 k', .string ⟨#[]⟩, .string ⟨#[]⟩, .string pt, .slice none 0 0, .slice none 0 0] 53 (0, 0))) (.cells #[.pointer (some ⟨x, 0, none⟩)] 195 (0, 0))
  rw [hs1] at b6
  rw [hs2] at b7
  rw [hs3] at b8
  have hB : Below w.heap.size w ((((w.alloc (.cells #[.int .i64 k, .string ⟨#[]⟩, .string ⟨#[]⟩, .string pt, .slice ya yn yc, .slice za zn zc] 136 (0, 0))).alloc (.cells #[.int .i64 0, .string ⟨#[]⟩, .string ⟨#[]⟩, .string ⟨#[]⟩, .slice none 0 0, .slice none 0 0] 53 (0, 0))).alloc (.cells #[.int .i64 k', .string ⟨#[]⟩, .string ⟨#[]⟩, .string pt, .slice none 0 0, .slice none 0 0] 53 (0, 0))).alloc (.cells #[.pointer (some ⟨x, 0, none⟩)] 195 (0, 0))) := ((((Below.refl _ _).alloc (Nat.le_refl _) _).alloc (by simp) _).alloc (by simp; omega) _).alloc (by simp; omega) _
  have hK1 := hK.same (hB.block x hK.lt)
  rw [hs3]
  go_wp2_with fail
  generalize hWl : ((((w.alloc (.cells #[.int .i64 k, .string ⟨#[]⟩, .string ⟨#[]⟩, .string pt, .slice ya yn yc, .slice za zn zc] 136 (0, 0))).alloc (.cells #[.int .i64 0, .string ⟨#[]⟩, .string ⟨#[]⟩, .string ⟨#[]⟩, .slice none 0 0, .slice none 0 0] 53 (0, 0))).alloc (.cells #[.int .i64 k', .string ⟨#[]⟩, .string ⟨#[]⟩, .string pt, .slice none 0 0, .slice none 0 0] 53 (0, 0))).alloc (.cells #[.pointer (some ⟨x, 0, none⟩)] 195 (0, 0))) = Wl at *
  generalize hu : w.heap.size = u at *
  have HB := hid hB
  have H6 := hid b6
  have H7 := hid b7
  have H8 := hid b8
  have HK := hid hK1
  have HU := hid hu
  clear hB b6 b7 b8 hK1 hK hWl hs1 hs2 hs3
  have hI0 : OwnFrom Wl.heap.size (fun (pre : List Kd) W => (∃ yv zv, W.heap[u + 1 + 1]? = some (.cells #[.int .i64 k', .string ⟨#[]⟩, .string ⟨#[]⟩, .string pt, yv, zv] 53 (0, 0)) ∧ W.ownsRow (u + 1 + 1 + 1 + 1) 5 1 yv pre.length (bytesL pre) ∧ W.ownsRow (u + 1 + 1 + 1 + 1) 30 2 zv pre.length (kidsL pre)) ∧ W.heap[u + 1]? = some (.cells #[.int .i64 0, .string ⟨#[]⟩, .string ⟨#[]⟩, .string ⟨#[]⟩, .slice none 0 0, .slice none 0 0] 53 (0, 0)) ∧ Below u w W ∧ u + 1 + 1 + 1 + 1 ≤ W.heap.size) := by
    rintro s A C row ⟨⟨yv, zv, hc, hy, hz⟩, h6, hb, hsz⟩ hg hr
    have e : ∀ (k : Nat), k < Wl.heap.size → k < A.heap.size → C.heap[k]? = A.heap[k]? := fun k hk hA => hg.block k hA (fun e => by have := (hr k e.symm).1; omega)
    have hMo : Mod (fun k => row = some k) A C := ⟨hg.os, hg.tape, hg.output, hg.size, fun k hk hn => hg.block k hk (fun e => hn e.symm)⟩
    have hno : ∀ {B e s n : Nat} {v : Value} {xs : List Value}, A.ownsRow B e s v n xs → ∀ k, v.ownBlock = some k → ¬ row = some k := fun h k e1 e2 => by
      obtain ⟨_, o, ho, hoc⟩ := hr k e2
      obtain ⟨_, ⟨rfl, _⟩ | ⟨g, cap, cur, rfl, _, hcc, _⟩⟩ := h
      · simp [Value.ownBlock] at e1
      · simp only [Value.ownBlock, Option.some.injEq] at e1
        subst e1
        rw [hcc] at ho
        cases ho
        cases hoc
    exact ⟨⟨yv, zv, (e _ (by omega) (lt_of_block hc)).trans hc, own_mod hy hMo (hno hy), own_mod hz hMo (hno hz)⟩, (e _ (by omega) (lt_of_block h6)).trans h6, hb.trans ⟨hg.os, hg.tape, hg.output, hg.size, fun k hk => hg.block k (by have := hb.size; omega) (fun e => by have := (hr k e.symm).1; omega)⟩, Nat.le_trans hsz hg.size⟩
  have hAx0 : ∀ (y : Kd) (a' : Act), OwnFrom Wl.heap.size (fun (_ : Unit) W => ∃ Bx, u + 1 + 1 + 1 + 1 ≤ Bx ∧ (W).heap[Bx]? = some (.cells #[.int .i64 (y).s, .int .u32 (y).g] 30 (0, 0)) ∧ ¬ MineOf (u + 1 + 1) W Bx ∧ a' = ({ tmps := #[(.agg #[.int .i64 k, .string ⟨#[]⟩, .string ⟨#[]⟩, .string pt, .slice ya yn yc, .slice za zn zc]), .iface 195 (.pointer (some ⟨x, 0, none⟩)), .int .i64 k', .pointer (some ⟨u, 0, none⟩), undef, undef, .pointer (some ⟨(u + 1), 0, none⟩), .pointer (some ⟨(u + 1 + 1), 0, none⟩), .int .u8 (y).b, .pointer (some ⟨Bx, 0, none⟩), .int .i64 k', .pointer (some ⟨u, 0, none⟩), .pointer (some ⟨u, 3, none⟩), .string pt, .agg #[.int .i64 k', .string ⟨#[]⟩, .string ⟨#[]⟩, .string pt, .slice none 0 0, .slice none 0 0], .iface 195 (.pointer (some ⟨x, 0, none⟩)), .func (.func 173) #[] #[.pointer (some ⟨(u + 1 + 1 + 1), 0, none⟩)], .int .u8 (y).b, .agg #[.int .i64 (y).s, .int .u32 (y).g], undef, undef, undef, undef, undef, undef, undef, undef, undef, undef, undef, undef, undef], defers := [] } : Act)) := by
    rintro y a' s A C row ⟨Bx, h1, h2, h4, h3⟩ hg hr
    refine ⟨Bx, h1, (hg.block Bx (lt_of_block h2) (fun e => ?_)).trans h2, fun hm => h4 ((mineOf_ok (c7 := u + 1 + 1) (n₀ := Wl.heap.size) (by omega)).grow (by have := lt_of_block h2; omega) hg hr hm), h3⟩
    obtain ⟨_, o, ho, hoc⟩ := hr Bx e.symm
    rw [h2] at ho
    cases ho
    cases hoc
  have hml : ∀ i, MineOf (u + 1 + 1) Wl i → i < Wl.heap.size := fun i hm => by
    rcases hm with ⟨n, c, hm⟩ | ⟨n, c, hm⟩
    · rw [cell_of H7.out 4] at hm; simp at hm
    · rw [cell_of H7.out 5] at hm; simp at hm
  have HIO := hid hI0
  have HAO := hid hAx0
  have HML := hid hml
  clear hI0 hAx0 hml
  refine wpIn_wide.1 (range_own (n := 8) (by decide) (gf := 173) (lb := #[.pointer (some ⟨(u + 1 + 1 + 1), 0, none⟩)]) rfl (enters_of Tryz.func173 (by kernel_rfl) rfl) (MineOf (u + 1 + 1)) (mineOf_ok (by omega)) ((F.all_own (u + 1 + 1 + 1) x r L Wl H8.out HK.out).up hL _ (mineOf_ok (by omega))) (Nat.le_refl _) HML.out (Below.refl _ _) (fun _ => rfl)
    (fun (pre : List Kd) W => (∃ yv zv, W.heap[u + 1 + 1]? = some (.cells #[.int .i64 k', .string ⟨#[]⟩, .string ⟨#[]⟩, .string pt, yv, zv] 53 (0, 0)) ∧ W.ownsRow (u + 1 + 1 + 1 + 1) 5 1 yv pre.length (bytesL pre) ∧ W.ownsRow (u + 1 + 1 + 1 + 1) 30 2 zv pre.length (kidsL pre)) ∧ W.heap[u + 1]? = some (.cells #[.int .i64 0, .string ⟨#[]⟩, .string ⟨#[]⟩, .string ⟨#[]⟩, .slice none 0 0, .slice none 0 0] 53 (0, 0)) ∧ Below u w W ∧ u + 1 + 1 + 1 + 1 ≤ W.heap.size) (fun _ _ => False) HIO.out (fun _ _ _ _ h _ _ => h) ⟨⟨_, _, H7.out, World.ownsRow_nil _ _ _ _, World.ownsRow_nil _ _ _ _⟩, H6.out, HB.out, by omega⟩ (fun y a' W => ∃ Bx, u + 1 + 1 + 1 + 1 ≤ Bx ∧ (W).heap[Bx]? = some (.cells #[.int .i64 (y).s, .int .u32 (y).g] 30 (0, 0)) ∧ ¬ MineOf (u + 1 + 1) W Bx ∧ a' = ({ tmps := #[(.agg #[.int .i64 k, .string ⟨#[]⟩, .string ⟨#[]⟩, .string pt, .slice ya yn yc, .slice za zn zc]), .iface 195 (.pointer (some ⟨x, 0, none⟩)), .int .i64 k', .pointer (some ⟨u, 0, none⟩), undef, undef, .pointer (some ⟨(u + 1), 0, none⟩), .pointer (some ⟨(u + 1 + 1), 0, none⟩), .int .u8 (y).b, .pointer (some ⟨Bx, 0, none⟩), .int .i64 k', .pointer (some ⟨u, 0, none⟩), .pointer (some ⟨u, 3, none⟩), .string pt, .agg #[.int .i64 k', .string ⟨#[]⟩, .string ⟨#[]⟩, .string pt, .slice none 0 0, .slice none 0 0], .iface 195 (.pointer (some ⟨x, 0, none⟩)), .func (.func 173) #[] #[.pointer (some ⟨(u + 1 + 1 + 1), 0, none⟩)], .int .u8 (y).b, .agg #[.int .i64 (y).s, .int .u32 (y).g], undef, undef, undef, undef, undef, undef, undef, undef, undef, undef, undef, undef, undef], defers := [] } : Act)) HAO.out ?assign ?body ?done ?stop)
  case assign =>
    rintro l pre y W K ⟨⟨yv, zv, hc, hy, hz⟩, h6, hb, hsz⟩ hK
    dsimp only [F.encK]
    gi_wp2_with fail
    have hbl : Below W.heap.size W (W.alloc (.cells #[.int .i64 y.s, .int .u32 y.g] 30 (0, 0))) := (Below.refl _ _).alloc (Nat.le_refl _) _
    have hlt := lt_of_block hc
    have hWl : Wl.heap.size ≤ W.heap.size := by omega
    refine hK _ _ (keepsFrom_below hbl) (KpM.below (mineOf_ok (by omega)) hWl hbl) ⟨⟨yv, zv, blk_alloc2 hc, hy.alloc _, hz.alloc _⟩, blk_alloc2 h6, hb.trans (hbl.mono (by have := hb.size; omega)), by have := hbl.size; omega⟩ ⟨W.heap.size, by omega, heap_new _ _, fun hm => ?_, rfl⟩
    have hc' := blk_alloc2 (o' := .cells #[.int .i64 y.s, .int .u32 y.g] 30 (0, 0)) hc
    rcases hm with ⟨n, c, hm⟩ | ⟨n, c, hm⟩
    · rw [cell_of hc' 4] at hm
      have e : yv = .slice (some ⟨W.heap.size, 0, none⟩) n c := by simpa using hm
      have := (own_ge hy (k := W.heap.size) (by rw [e]; rfl)).2
      omega
    · rw [cell_of hc' 5] at hm
      have e : zv = .slice (some ⟨W.heap.size, 0, none⟩) n c := by simpa using hm
      have := (own_ge hz (k := W.heap.size) (by rw [e]; rfl)).2
      omega
  case body =>
    rintro l pre y a' W hl hrec ⟨⟨yv, zv, hc, hy, hz⟩, h6, hb, hsz⟩ ⟨Bx, hBx, hX, hnm, rfl⟩ hlen
    have hn1 : ∀ {v : Value} {e : TypeId} {s n : Nat} {xs : List Value}, W.ownsRow (u + 1 + 1 + 1 + 1) e s v n xs → ∀ k, v.ownBlock = some k → k < W.heap.size := fun h k e => (own_ge h e).2
    have hblk : ∀ {v : Value} {e : TypeId} {s n : Nat} {xs : List Value}, W.ownsRow (u + 1 + 1 + 1 + 1) e s v n xs → ∀ k, v.ownBlock = some k → ∃ n' c, v = .slice (some ⟨k, 0, none⟩) n' c := fun h k e => by
      obtain ⟨_, ⟨rfl, _⟩ | ⟨g, cap, cur, rfl, _, _, _⟩⟩ := h
      · simp [Value.ownBlock] at e
      · simp only [Value.ownBlock, Option.some.injEq] at e; subst e; exact ⟨_, _, rfl⟩
    have hBS : ¬ OfS (u + 1 + 1) yv zv Bx := by
      rintro (e | e | e)
      · omega
      · obtain ⟨n', c, rfl⟩ := hblk hy _ e
        exact hnm (.inl ⟨n', c, by rw [cell_of hc 4]; rfl⟩)
      · obtain ⟨n', c, rfl⟩ := hblk hz _ e
        exact hnm (.inr ⟨n', c, by rw [cell_of hc 5]; rfl⟩)
    have HC := hid hc
    have HY := hid hy
    have HZ := hid hz
    have HXB := hid hX
    have HBS := hid hBS
    have HN1 := hid (hn1 hy)
    have HN2 := hid (hn1 hz)
    have HBK := hid (And.intro (hblk hy) (hblk hz))
    have H6B := hid h6
    have HBB := hid hb
    clear hc hy hz hX hBS hn1 hblk h6 hb hnm
    obtain ⟨i1, hi1, hz1, hs1, hby1⟩ := info_parts (P := Tryz.prog) (e := 5) (z := .int .u8 0) (size := 1) (bytes := 1) (by kernel_rfl)
    obtain ⟨i2, hi2, hz2, hs2, hby2⟩ := info_parts (P := Tryz.prog) (e := 30) (z := .agg #[.int .i64 0, .int .u32 0]) (size := 2) (bytes := 16) (by kernel_rfl)
    have HI1 := hid hi1
    have HZ1 := hid hz1
    have HS1 := hid hs1
    have HY1 := hid hby1
    have HI2 := hid hi2
    have HZ2 := hid hz2
    have HS2 := hid hs2
    have HY2 := hid hby2
    clear hi1 hz1 hs1 hby1 hi2 hz2 hs2 hby2
    gi_wp2_with fail
    refine rgn_val (fok_round _ _) (by kernel_rfl) 14 (OfJ W (u + 1 + 1) (u + 1 + 1 + 1 + 1) pre.length (.int .i64 k') pt yv zv (bytesL pre) (kidsL pre) y.b y.s y.g (fun j => ([.pointer (some ⟨u + 1 + 1, 4, none⟩), yv, .int .u8 y.b, undef, undef, .pointer (some ⟨u + 1 + 1, 5, none⟩), zv, .agg #[.int .i64 y.s, .int .u32 y.g], undef, undef, .pointer (some ⟨u + 1 + 1, 4, none⟩), undef, .pointer (some ⟨u + 1 + 1, 5, none⟩)] : List Value)[j]?.getD undef)) (by kernel_rfl) (by kernel_rfl) (by kernel_rfl) ?h0 ?hs ?hend
    case h0 => exact OfJ.start HY.out HZ.out HC.out
    case hs =>
      dsimp only [List.take, AllOpsI, dsts, fill]
      refine ⟨?_, ?_, ?_, ?_, ?_, ?_, ?_, ?_, ?_, ?_, ?_, ?_, ?_, ?_⟩
      · intro D xs w1 hDk hwt hJ
        skip
        skip
        have HJ := hid hJ
        clear hDk hwt hJ
        go_wp2_with fail
        first | exact ⟨.pointer (some ⟨u + 1 + 1, 4, none⟩), by kernel_rfl, fun q hq => by obtain rfl := hq rfl; exact HJ.out.calm (by decide) rfl⟩ | exact ⟨.pointer (some ⟨u + 1 + 1, 4, none⟩), by kernel_rfl, HJ.out.calm (by decide) rfl⟩
      · intro D xs w1 hDk hwt hJ
        have ee : xs 0 = .pointer (some ⟨u + 1 + 1, 4, none⟩) := hJ.v 0 (hwt 0 (List.mem_of_elem_eq_true (by kernel_rfl))) (by decide)
        rw [ee]
        clear ee
        have hd : D 11 = false := by
          cases e : D 11
          · rfl
          · have := (hJ.o4 (hJ.o11 e)).1
            rw [this] at hDk
            cases hDk
        have hc7 := hJ.c
        rw [hd] at hc7
        have q := cell_of hc7 4
        clear hc7 hd
        have HJ := hid hJ
        clear hDk hwt hJ
        go_wp2_with fail
        first | exact ⟨yv, by kernel_rfl, fun q hq => by obtain rfl := hq rfl; exact HJ.out.calm (by decide) rfl⟩ | exact ⟨yv, by kernel_rfl, HJ.out.calm (by decide) rfl⟩
      · intro D xs w1 hDk hwt hJ
        skip
        skip
        have HJ := hid hJ
        clear hDk hwt hJ
        go_wp2_with fail
        first | exact ⟨.int .u8 y.b, by kernel_rfl, fun q hq => by obtain rfl := hq rfl; exact HJ.out.calm (by decide) rfl⟩ | exact ⟨.int .u8 y.b, by kernel_rfl, HJ.out.calm (by decide) rfl⟩
      · intro D xs w1 hDk hwt hJ
        have ee : xs 2 = .int .u8 y.b := hJ.v 2 (hwt 2 (List.mem_of_elem_eq_true (by kernel_rfl))) (by decide)
        rw [ee]
        clear ee
        have h4 : D 4 = false := by
          cases e : D 4
          · rfl
          · have := (hJ.o4 e).2
            rw [this] at hDk
            cases hDk
        have HJ := hid hJ
        clear hDk hwt hJ
        go_wp2_with fail
        first | exact ⟨.slice (some ⟨w1.heap.size, 0, none⟩) 1 1, by kernel_rfl, fun q hq => by obtain rfl := hq rfl; exact HJ.out.lay3 h4⟩ | exact ⟨.slice (some ⟨w1.heap.size, 0, none⟩) 1 1, by kernel_rfl, HJ.out.lay3 h4⟩
      · intro D xs w1 hDk hwt hJ
        have hD : D 4 = false := hDk
        have hw1 : D 1 = true := hwt 1 (List.mem_of_elem_eq_true (by kernel_rfl))
        have hw2 : D 3 = true := hwt 3 (List.mem_of_elem_eq_true (by kernel_rfl))
        have ee : xs 1 = yv := hJ.v 1 (hwt 1 (List.mem_of_elem_eq_true (by kernel_rfl))) (by decide)
        rw [ee]
        clear ee
        obtain ⟨a, ea, ha, la⟩ := hJ.l3 hw2 hD
        rw [ea]
        clear ea
        have hown := hJ.y
        rw [hD] at hown
        simp only [cond_false] at hown
        have HJ := hid hJ
        have HD := hid hD
        have HWW := hid (And.intro hw1 hw2)
        have hsz1 := hJ.m.size
        clear hDk hwt hJ hD hw1 hw2
        refine wpList_append_own_at w1 rfl (.tmp 20) (.tmp 22) 51 rfl (u + 1 + 1 + 1 + 1) 5 i1 (.int .u8 0) 1 1 Tryz.underlying51 HI1.out HZ1.out HS1.out HY1.out rfl (by decide) yv (pre.length) (bytesL pre) (by kernel_rfl) hown ⟨a, 0, none⟩ 1 1 ([.int .u8 y.b]) (by kernel_rfl) rfl (fun j v hj => by rw [addr_add0, Nat.zero_add, cell_of ha, List.getElem?_toArray]; exact hj) (by simp [Value.oneCell']) (by simp [maxLen]; omega) (by omega) (by omega) ?_
        intro v' w2 g1 g2 _ g4
        go_wp2_with fail
        first | exact ⟨v', by kernel_rfl, fun q hq => by obtain rfl := hq rfl; exact HJ.out.app4 (by omega) HN1.out HD.out HWW.out g1 g2 g4⟩ | exact ⟨v', by kernel_rfl, HJ.out.app4 (by omega) HN1.out HD.out HWW.out g1 g2 g4⟩
      · intro D xs w1 hDk hwt hJ
        skip
        skip
        have HJ := hid hJ
        clear hDk hwt hJ
        go_wp2_with fail
        first | exact ⟨.pointer (some ⟨u + 1 + 1, 5, none⟩), by kernel_rfl, fun q hq => by obtain rfl := hq rfl; exact HJ.out.calm (by decide) rfl⟩ | exact ⟨.pointer (some ⟨u + 1 + 1, 5, none⟩), by kernel_rfl, HJ.out.calm (by decide) rfl⟩
      · intro D xs w1 hDk hwt hJ
        have ee : xs 5 = .pointer (some ⟨u + 1 + 1, 5, none⟩) := hJ.v 5 (hwt 5 (List.mem_of_elem_eq_true (by kernel_rfl))) (by decide)
        rw [ee]
        clear ee
        have hd : D 13 = false := by
          cases e : D 13
          · rfl
          · have := (hJ.o9 (hJ.o13 e)).1
            rw [this] at hDk
            cases hDk
        have hc7 := hJ.c
        rw [hd] at hc7
        have q := cell_of hc7 5
        clear hc7 hd
        have HJ := hid hJ
        clear hDk hwt hJ
        go_wp2_with fail
        first | exact ⟨zv, by kernel_rfl, fun q hq => by obtain rfl := hq rfl; exact HJ.out.calm (by decide) rfl⟩ | exact ⟨zv, by kernel_rfl, HJ.out.calm (by decide) rfl⟩
      · intro D xs w1 hDk hwt hJ
        skip
        have hk := (hJ.m.block Bx (lt_of_block HXB.out) HBS.out).trans HXB.out; have q0 := cell_of hk 0; have q1 := cell_of hk 1; clear hk
        have HJ := hid hJ
        clear hDk hwt hJ
        go_wp2_with fail
        first | exact ⟨.agg #[.int .i64 y.s, .int .u32 y.g], by kernel_rfl, fun q hq => by obtain rfl := hq rfl; exact HJ.out.calm (by decide) rfl⟩ | exact ⟨.agg #[.int .i64 y.s, .int .u32 y.g], by kernel_rfl, HJ.out.calm (by decide) rfl⟩
      · intro D xs w1 hDk hwt hJ
        have ee : xs 7 = .agg #[.int .i64 y.s, .int .u32 y.g] := hJ.v 7 (hwt 7 (List.mem_of_elem_eq_true (by kernel_rfl))) (by decide)
        rw [ee]
        clear ee
        have h9 : D 9 = false := by
          cases e : D 9
          · rfl
          · have := (hJ.o9 e).2
            rw [this] at hDk
            cases hDk
        have HJ := hid hJ
        clear hDk hwt hJ
        go_wp2_with fail
        first | exact ⟨.slice (some ⟨w1.heap.size, 0, none⟩) 1 1, by kernel_rfl, fun q hq => by obtain rfl := hq rfl; exact HJ.out.lay8 h9⟩ | exact ⟨.slice (some ⟨w1.heap.size, 0, none⟩) 1 1, by kernel_rfl, HJ.out.lay8 h9⟩
      · intro D xs w1 hDk hwt hJ
        have hD : D 9 = false := hDk
        have hw1 : D 6 = true := hwt 6 (List.mem_of_elem_eq_true (by kernel_rfl))
        have hw2 : D 8 = true := hwt 8 (List.mem_of_elem_eq_true (by kernel_rfl))
        have ee : xs 6 = zv := hJ.v 6 (hwt 6 (List.mem_of_elem_eq_true (by kernel_rfl))) (by decide)
        rw [ee]
        clear ee
        obtain ⟨a, ea, ha, la⟩ := hJ.l8 hw2 hD
        rw [ea]
        clear ea
        have hown := hJ.z
        rw [hD] at hown
        simp only [cond_false] at hown
        have HJ := hid hJ
        have HD := hid hD
        have HWW := hid (And.intro hw1 hw2)
        have hsz1 := hJ.m.size
        clear hDk hwt hJ hD hw1 hw2
        refine wpList_append_own_at w1 rfl (.tmp 25) (.tmp 27) 43 rfl (u + 1 + 1 + 1 + 1) 30 i2 (.agg #[.int .i64 0, .int .u32 0]) 2 16 Tryz.underlying43 HI2.out HZ2.out HS2.out HY2.out rfl (by decide) zv (pre.length) (kidsL pre) (by kernel_rfl) hown ⟨a, 0, none⟩ 1 1 ([.int .i64 y.s, .int .u32 y.g]) (by kernel_rfl) rfl (fun j v hj => by rw [addr_add0, Nat.zero_add, cell_of ha, List.getElem?_toArray]; exact hj) (by simp [Value.oneCell']) (by simp [maxLen]; omega) (by omega) (by omega) ?_
        intro v' w2 g1 g2 _ g4
        go_wp2_with fail
        first | exact ⟨v', by kernel_rfl, fun q hq => by obtain rfl := hq rfl; exact HJ.out.app9 (by omega) HN2.out HD.out HWW.out g1 g2 g4⟩ | exact ⟨v', by kernel_rfl, HJ.out.app9 (by omega) HN2.out HD.out HWW.out g1 g2 g4⟩
      · intro D xs w1 hDk hwt hJ
        skip
        skip
        have HJ := hid hJ
        clear hDk hwt hJ
        go_wp2_with fail
        first | exact ⟨.pointer (some ⟨u + 1 + 1, 4, none⟩), by kernel_rfl, fun q hq => by obtain rfl := hq rfl; exact HJ.out.calm (by decide) rfl⟩ | exact ⟨.pointer (some ⟨u + 1 + 1, 4, none⟩), by kernel_rfl, HJ.out.calm (by decide) rfl⟩
      · intro D xs w1 hDk hwt hJ
        have hw1 : D 4 = true := hwt 4 (List.mem_of_elem_eq_true (by kernel_rfl))
        have ee : xs 10 = .pointer (some ⟨u + 1 + 1, 4, none⟩) := hJ.v 10 (hwt 10 (List.mem_of_elem_eq_true (by kernel_rfl))) (by decide)
        rw [ee]
        clear ee
        have hown := hJ.y
        rw [hw1] at hown
        simp only [cond_true] at hown
        obtain ⟨sa, sn, sc, es⟩ := own_form hown
        have hst := hJ.st11 (by omega) hw1
        rw [es] at hst ⊢
        have hcc := hJ.c
        have q := cell_of hcc 4
        have qf := free_of hcc 4
        have HST := hid hst
        clear hDk hwt hJ hown hst hcc hw1
        go_wp2_with fail
        exact ⟨undef, by kernel_rfl, fun q _ => HST.out q⟩
      · intro D xs w1 hDk hwt hJ
        skip
        skip
        have HJ := hid hJ
        clear hDk hwt hJ
        go_wp2_with fail
        first | exact ⟨.pointer (some ⟨u + 1 + 1, 5, none⟩), by kernel_rfl, fun q hq => by obtain rfl := hq rfl; exact HJ.out.calm (by decide) rfl⟩ | exact ⟨.pointer (some ⟨u + 1 + 1, 5, none⟩), by kernel_rfl, HJ.out.calm (by decide) rfl⟩
      · intro D xs w1 hDk hwt hJ
        have hw1 : D 9 = true := hwt 9 (List.mem_of_elem_eq_true (by kernel_rfl))
        have ee : xs 12 = .pointer (some ⟨u + 1 + 1, 5, none⟩) := hJ.v 12 (hwt 12 (List.mem_of_elem_eq_true (by kernel_rfl))) (by decide)
        rw [ee]
        clear ee
        have hown := hJ.z
        rw [hw1] at hown
        simp only [cond_true] at hown
        obtain ⟨sa, sn, sc, es⟩ := own_form hown
        have hst := hJ.st13 (by omega) hw1
        rw [es] at hst ⊢
        have hcc := hJ.c
        have q := cell_of hcc 5
        have qf := free_of hcc 5
        have HST := hid hst
        clear hDk hwt hJ hown hst hcc hw1
        go_wp2_with fail
        exact ⟨undef, by kernel_rfl, fun q _ => HST.out q⟩
    case hend =>
      intro D xs w1 hD hJ
      have HE := hid (of_end (w := w) hs4 hD hJ HC.out HY.out HZ.out H6B.out HBB.out hsz)
      clear hD hJ
      gi_wp2_with fail
      exact HE.out
  case done =>
    rintro D xs W hD rfl ⟨⟨yv, zv, hc, hy, hz⟩, h6, hb, hsz⟩ hdf
    clear hmt hmf HIO HAO HML H6 H7 H8
    obtain ⟨yb, ycp, rfl⟩ := own_form2 hy
    obtain ⟨zb, zcp, rfl⟩ := own_form2 hz
    have q0 := cell_of hc 0
    have q1 := cell_of hc 1
    have q2 := cell_of hc 2
    have q3 := cell_of hc 3
    have q4 := cell_of hc 4
    have q5 := cell_of hc 5
    have p0 := cell_of h6 0
    have p1 := cell_of h6 1
    have p2 := cell_of h6 2
    have p3 := cell_of h6 3
    have p4 := cell_of h6 4
    have p5 := cell_of h6 5
    have qf := free_of h6
    have HLS := hid (of_last (k' := k') (pt := pt) h6 hy hz hb (by omega : u + 1 + 1 + 1 + 1 ≤ D) hdf)
    clear hy hz hc h6 hb hdf
    go_wp2_with fail
    obtain ⟨l1, l2, l3, l4, l5⟩ := HLS.out
    obtain ⟨fs, hus⟩ : ∃ fs, Tryz.prog.underlying 53 = some (.struct fs) := ⟨_, rfl⟩
    refine ⟨by simp, .inl ⟨_, _, rfl, run_takeDeferred l1, ?_⟩⟩
    exact ⟨_, results_cell_row rfl _ _ (u + 1) _ _ _ _ rfl l2 hus rfl (by kernel_rfl), _, _, _, _, rfl, l3, l4, by rw [hu]; exact l5⟩
  case stop => exact fun D pre W hD hp h hk => h.elim
end
end Go.Proofs.YtnngicopphiaaaaGreatDoor.O
