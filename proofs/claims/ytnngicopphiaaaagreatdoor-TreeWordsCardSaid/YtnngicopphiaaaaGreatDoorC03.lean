/- Part 3 of 51 of a proof: lemmas on the functions that it reaches. -/
import Derived.Test.YtnngicopphiaaaaGreatDoorC02
import Derived.Laws.CopyRow
import Derived.Test.YtnngicopphiaaaaGreatDoorRows
import Derived.Deep.QuietTactic
import Derived.OwnWalk
import Derived.Laws.Tables
namespace Go.Burg
open Go
def Turn (c : Nat) (A B : World → Prop) : (Nat → Bool) → World → Prop := fun D w => cond (D c) (B w) (A w)
section
variable {P : Program} {ops : Array Oper} {A B : World → Prop} {c k : Nat} {o : Oper} {l : List Oper} {a a' : Act} {K : Act → Prop}
theorem Turn.other {D : Nat → Bool} {w : World} (h : c ≠ k) : Turn c A B (fun j => D j || j == k) w = Turn c A B D w := by
  unfold Turn
  have : (c == k) = false := by simpa using h
  simp [this]
theorem Turn.or {D : Nat → Bool} {w : World} (h : Turn c A B D w) : A w ∨ B w := by
  unfold Turn at h
  cases hD : D c <;> rw [hD] at h
  · exact .inl h
  · exact .inr h
theorem Seq.calm (hk : c ≠ k) (h : ∀ w, (A w ∨ B w) → wpList P ops (Alone fun a1 w' => a1 = a' ∧ (A w → A w') ∧ (B w → B w')) [o] a w)
    (hp : a' = a.put o.dst (a'.tmps.getD (o.dst.getD 0) undef)) (k1 : SeqI P ops (Turn c A B) (k + 1) l a' K) : SeqI P ops (Turn c A B) k (o :: l) a K :=
  ⟨a', fun D w _ _ hI => alone_mono _ _ (by
    rintro a1 w' ⟨rfl, h1, h2⟩
    refine ⟨rfl, ?_⟩
    rw [Turn.other hk]
    unfold Turn at hI ⊢
    cases hD : D c <;> rw [hD] at hI <;> simp only [cond_true, cond_false] at hI ⊢
    · exact h1 hI
    · exact h2 hI) (h w hI.or), hp, k1⟩
theorem Seq.turn (h : ∀ w, A w → wpList P ops (Alone fun a1 w' => a1 = a' ∧ B w') [o] a w)
    (hp : a' = a.put o.dst (a'.tmps.getD (o.dst.getD 0) undef)) (k1 : SeqI P ops (Turn c A B) (c + 1) l a' K) : SeqI P ops (Turn c A B) c (o :: l) a K :=
  ⟨a', fun D w hD _ hI => alone_mono _ _ (by
    rintro a1 w' ⟨rfl, h1⟩
    refine ⟨rfl, ?_⟩
    unfold Turn
    simpa using h1) (h w (by unfold Turn at hI; rw [hD] at hI; exact hI)), hp, k1⟩
theorem Turn.start {w : World} (h : A w) : Turn c A B (fun _ => false) w := h
theorem Turn.done {D : Nat → Bool} {w : World} (h : Turn c A B D w) (hD : D c = true) : B w := by
  unfold Turn at h
  rw [hD] at h
  exact h
end
end Go.Burg

namespace Go.Burg
open Go
def Turn3 (c1 c2 c3 : Nat) (S : Bool → Bool → Bool → World → Prop) : (Nat → Bool) → World → Prop := fun D w => S (D c1) (D c2) (D c3) w
section
variable {P : Program} {ops : Array Oper} {S : Bool → Bool → Bool → World → Prop} {c1 c2 c3 k : Nat} {o : Oper} {l : List Oper} {a a' : Act} {K : Act → Prop}
theorem Seq3.calm (h1 : c1 ≠ k) (h2 : c2 ≠ k) (h3 : c3 ≠ k) (h : ∀ b1 b2 b3 w, S b1 b2 b3 w → wpList P ops (Alone fun a1 w' => a1 = a' ∧ S b1 b2 b3 w') [o] a w)
    (hp : a' = a.put o.dst (a'.tmps.getD (o.dst.getD 0) undef)) (k1 : SeqI P ops (Turn3 c1 c2 c3 S) (k + 1) l a' K) : SeqI P ops (Turn3 c1 c2 c3 S) k (o :: l) a K :=
  ⟨a', fun D w _ _ hI => alone_mono _ _ (by
    rintro a1 w' ⟨rfl, hw⟩
    refine ⟨rfl, ?_⟩
    unfold Turn3
    have e1 : (c1 == k) = false := by simpa using h1
    have e2 : (c2 == k) = false := by simpa using h2
    have e3 : (c3 == k) = false := by simpa using h3
    simpa [e1, e2, e3] using hw) (h _ _ _ w hI), hp, k1⟩
theorem Seq3.at1 (h2 : c2 ≠ c1) (h3 : c3 ≠ c1) (h : ∀ b2 b3 w, S false b2 b3 w → wpList P ops (Alone fun a1 w' => a1 = a' ∧ S true b2 b3 w') [o] a w)
    (hp : a' = a.put o.dst (a'.tmps.getD (o.dst.getD 0) undef)) (k1 : SeqI P ops (Turn3 c1 c2 c3 S) (c1 + 1) l a' K) : SeqI P ops (Turn3 c1 c2 c3 S) c1 (o :: l) a K :=
  ⟨a', fun D w hD _ hI => alone_mono _ _ (by
    rintro a1 w' ⟨rfl, hw⟩
    refine ⟨rfl, ?_⟩
    unfold Turn3
    have e2 : (c2 == c1) = false := by simpa using h2
    have e3 : (c3 == c1) = false := by simpa using h3
    simpa [e2, e3] using hw) (h (D c2) (D c3) w (by unfold Turn3 at hI; rw [hD] at hI; exact hI)), hp, k1⟩
theorem Seq3.at2 (h1 : c1 ≠ c2) (h3 : c3 ≠ c2) (h : ∀ b1 b3 w, S b1 false b3 w → wpList P ops (Alone fun a1 w' => a1 = a' ∧ S b1 true b3 w') [o] a w)
    (hp : a' = a.put o.dst (a'.tmps.getD (o.dst.getD 0) undef)) (k1 : SeqI P ops (Turn3 c1 c2 c3 S) (c2 + 1) l a' K) : SeqI P ops (Turn3 c1 c2 c3 S) c2 (o :: l) a K :=
  ⟨a', fun D w hD _ hI => alone_mono _ _ (by
    rintro a1 w' ⟨rfl, hw⟩
    refine ⟨rfl, ?_⟩
    unfold Turn3
    have e1 : (c1 == c2) = false := by simpa using h1
    have e3 : (c3 == c2) = false := by simpa using h3
    simpa [e1, e3] using hw) (h (D c1) (D c3) w (by unfold Turn3 at hI; rw [hD] at hI; exact hI)), hp, k1⟩
theorem Seq3.at3 (h1 : c1 ≠ c3) (h2 : c2 ≠ c3) (h : ∀ b1 b2 w, S b1 b2 false w → wpList P ops (Alone fun a1 w' => a1 = a' ∧ S b1 b2 true w') [o] a w)
    (hp : a' = a.put o.dst (a'.tmps.getD (o.dst.getD 0) undef)) (k1 : SeqI P ops (Turn3 c1 c2 c3 S) (c3 + 1) l a' K) : SeqI P ops (Turn3 c1 c2 c3 S) c3 (o :: l) a K :=
  ⟨a', fun D w hD _ hI => alone_mono _ _ (by
    rintro a1 w' ⟨rfl, hw⟩
    refine ⟨rfl, ?_⟩
    unfold Turn3
    have e1 : (c1 == c3) = false := by simpa using h1
    have e2 : (c2 == c3) = false := by simpa using h2
    simpa [e1, e2] using hw) (h (D c1) (D c2) w (by unfold Turn3 at hI; rw [hD] at hI; exact hI)), hp, k1⟩
theorem Turn3.start {w : World} (h : S false false false w) : Turn3 c1 c2 c3 S (fun _ => false) w := h
theorem Turn3.done {D : Nat → Bool} {w : World} (h : Turn3 c1 c2 c3 S D w) (h1 : D c1 = true) (h2 : D c2 = true) (h3 : D c3 = true) : S true true true w := by
  unfold Turn3 at h
  rwa [h1, h2, h3] at h
end
end Go.Burg

namespace Go.Burg
open Go Go.RowKit
theorem run_copy_rowc {P : Program} (w : World) (dT sT ty elem : TypeId) (g o dLen dCap : Nat) (a : Addr) (sLen sCap : Nat) (cur : Array Value) (t : TypeId) (cs : List Value) (c : Nat)
    (hu : P.underlying dT = some (.slice elem)) (hs : (P.info? elem).map (·.size) = some c)
    (hg : w.heap[g]? = some (.cells cur t (0, 0))) (hn : cs.length = Nat.min sLen dLen * c)
    (hsrc : ∀ j v, cs[j]? = some v → w.cell? (a.add j) = some v) (hfit : o + cs.length ≤ cur.size) (h1 : ∀ v ∈ cs, v.oneCell' = true) :
    (Builtin.copy_ #[dT, sT] ty #[.slice (some ⟨g, o, none⟩) dLen dCap, .slice (some a) sLen sCap]).run P w =
      .ok (goInt (Nat.min sLen dLen)) (w.setRow g (cur.toList.take o ++ cs ++ cur.toList.drop (o + cs.length)).toArray) := by
  have hl := run_loadCells_list (P := P) w a cs hsrc
  have hst := run_storeCells_at P g o t cs 0 cur w hg (by simpa using hfit) h1
  cases hq : P.info? elem with
  | none => simp [hq] at hs
  | some i =>
    have hi : i.size = c := by simpa [hq] using hs
    simp [Builtin.copy_, run_underlying hu, Builtin.lenOf, Builtin.firstCells, sizeOf, typeInfo, hq, hi, ← hn, hl, hst]
structure Fw where
  b : Nat → Int
  s : Nat → Int
  g : Nat → Int
  n : Nat
  room : Nat
def fwB (F : Fw) : List Value := (List.range 16).map fun i => .int .u8 (F.b i)
def fwR (F : Fw) : List Value := (List.range 16).flatMap fun i => [.int .i64 (F.s i), .int .u32 (F.g i)]
def FwRow (F : Fw) : List Value := fwB F ++ fwR F ++ [.int .i64 F.n, .int .i64 F.room]
def FwAt (T : TypeId) (w : World) (x : Nat) (F : Fw) : Prop := w.heap[x]? = some (.cells (FwRow F).toArray T (0, 0))
section
variable {T : TypeId} {w w' : World} {x : Nat} {F : Fw}
theorem fwB_len (F : Fw) : (fwB F).length = 16 := by simp [fwB]
theorem fwR_len (F : Fw) : (fwR F).length = 32 := rfl
theorem fwR_at (F : Fw) {i : Nat} (hi : i < 16) : (fwR F)[i * 2]? = some (.int .i64 (F.s i)) ∧ (fwR F)[i * 2 + 1]? = some (.int .u32 (F.g i)) := by
  have h : ∀ i : Fin 16, (fwR F)[i.val * 2]? = some (.int .i64 (F.s i.val)) ∧ (fwR F)[i.val * 2 + 1]? = some (.int .u32 (F.g i.val)) := by
    intro i
    rcases i with ⟨i, h⟩
    rcases (by omega : i = 0 ∨ i = 1 ∨ i = 2 ∨ i = 3 ∨ i = 4 ∨ i = 5 ∨ i = 6 ∨ i = 7 ∨ i = 8 ∨ i = 9 ∨ i = 10 ∨ i = 11 ∨ i = 12 ∨ i = 13 ∨ i = 14 ∨ i = 15) with rfl | rfl | rfl | rfl | rfl | rfl | rfl | rfl | rfl | rfl | rfl | rfl | rfl | rfl | rfl | rfl <;> exact ⟨rfl, rfl⟩
  exact h ⟨i, hi⟩
theorem FwAt.lt (h : FwAt T w x F) : x < w.heap.size := lt_of_block h
theorem FwAt.same (h : FwAt T w x F) (e : w'.heap[x]? = w.heap[x]?) : FwAt T w' x F := e.trans h
theorem FwAt.free (h : FwAt T w x F) (j : Nat) : w.frozen? ⟨x, j, none⟩ = false := free_of h j
theorem FwAt.byte (h : FwAt T w x F) {i : Nat} (hi : i < 16) : w.cell? ⟨x, i, none⟩ = some (.int .u8 (F.b i)) := by
  refine (cell_of h i).trans ?_
  rw [List.getElem?_toArray]
  unfold FwRow
  rw [List.append_assoc, List.getElem?_append_left (by rw [fwB_len]; exact hi)]
  simp [fwB, hi]
theorem FwAt.ref (h : FwAt T w x F) {i : Nat} (hi : i < 16) : w.cell? ⟨x, 16 + i * 2, none⟩ = some (.int .i64 (F.s i)) ∧ w.cell? ⟨x, 16 + i * 2 + 1, none⟩ = some (.int .u32 (F.g i)) := by
  have e : ∀ j, j < 32 → w.cell? ⟨x, 16 + j, none⟩ = (fwR F)[j]? := fun j hj => by
    refine (cell_of h _).trans ?_
    rw [List.getElem?_toArray]
    unfold FwRow
    rw [List.append_assoc, List.getElem?_append_right (by rw [fwB_len]; omega), fwB_len, List.getElem?_append_left (by rw [fwR_len]; omega)]
    congr 1
    omega
  obtain ⟨h1, h2⟩ := fwR_at F hi
  exact ⟨(e _ (by omega)).trans h1, (e (i * 2 + 1) (by omega)).trans h2⟩
theorem FwAt.num (h : FwAt T w x F) : w.cell? ⟨x, 48, none⟩ = some (.int .i64 F.n) ∧ w.cell? ⟨x, 49, none⟩ = some (.int .i64 F.room) := by
  have e : ∀ j, w.cell? ⟨x, 48 + j, none⟩ = ([.int .i64 F.n, .int .i64 F.room] : List Value)[j]? := fun j => by
    refine (cell_of h _).trans ?_
    rw [List.getElem?_toArray]
    unfold FwRow
    rw [List.getElem?_append_right (by rw [List.length_append, fwB_len, fwR_len]; omega), List.length_append, fwB_len, fwR_len]
    congr 1
    omega
  exact ⟨e 0, e 1⟩
end
end Go.Burg

namespace Go.Burg
open Go
def IdxAt (F : Fw) (n : Nat) (y : Int) (i : Nat) : Prop := i ≤ n ∧ (∀ j, j < i → F.b j < y) ∧ (i < n → y ≤ F.b i)
end Go.Burg
namespace Go.Proofs.YtnngicopphiaaaaGreatDoor.F
set_option maxRecDepth 8000
open Go.ChangeShapes Go.WideShapes Go.ChangeAt Go.RowKit Go.Burg
theorem there_at {x : Nat} {F : Fw} (w : World) (h : FwAt 212 w x F) (hr : 1 ≤ F.room) : Calls Tryz.prog 174 #[.pointer (some ⟨x, 0, none⟩)] w fun e w' => e = .returned (.bool true) ∧ w = w' := by
  have c1 := h.num.2
  have hd : decide ((F.room : Int) > 0) = true := by simp; omega
  go_enter Tryz.func174, Tryz.ntmps174
  go_wp2
  go_ret
  first | exact ⟨rfl, rfl⟩ | exact ⟨by simp; omega, rfl⟩
theorem at1_any {c : Nat} {y : Int} (z : Int) (w : World) (h : w.heap[c]? = some (.cells #[.int .u8 y] 5 (0, 0))) : Calls Tryz.prog 179 #[.int .u8 z, .pointer (some ⟨c, 0, none⟩)] w fun e w' => e = .returned (.bool (decide (y ≤ z))) ∧ w = w' := by
  have c0 := cell_of h 0
  go_enter Tryz.func179, Tryz.ntmps179
  go_wp2
  go_ret
  first | exact ⟨rfl, rfl⟩ | exact ⟨by simp, rfl⟩
theorem index_at {x c i cp : Nat} {F : Fw} {y : Int} (w : World) (h : FwAt 212 w x F) (hn : F.n ≤ 16) (hc : w.heap[c]? = some (.cells #[.int .u8 y] 5 (0, 0))) (hi : IdxAt F F.n y i) :
    Calls Tryz.prog 180 #[.slice (some ⟨x, 0, none⟩) F.n cp, .func (.func 179) #[] #[.pointer (some ⟨c, 0, none⟩)]] w fun e w' => e = .returned (.int .i64 (if i < F.n then (i : Int) else -1)) ∧ w = w' := by
  have HI := hid hi
  have HC := hid hc
  clear hi
  go_enter Tryz.func180, Tryz.ntmps180
  go_wp2_with fail
  go_loopw [8] (fun iv wr => ∃ k : Nat, k ≤ i ∧ iv = .int .i64 k ∧ wr = w) (fun iv _ => F.n - (intOf iv).toNat)
  case atStart => exact ⟨0, Nat.zero_le _, rfl, rfl⟩
  case round =>
    obtain ⟨k, hk, rfl, rfl⟩ := hrel
    have hin := HI.out.1
    by_cases hlt : k < F.n
    · have b0 := h.byte (show k < 16 by omega)
      by_cases hki : k < i
      · have hb : decide (y ≤ F.b k) = false := by have := HI.out.2.1 k hki; simp; omega
        have HA := hid (at1_any (y := y) (F.b k) wr HC.out)
        rw [hb] at HA
        clear hb
        go_wp2_with (go_at_call 179; refine HA.out.mono ?_; rintro e w2 ⟨rfl, rfl⟩)
        go_roundw
        case rel => exact ⟨k + 1, by omega, by go_num, by first | rfl | trivial⟩
        case measure => simp [intOf]; omega
      · obtain rfl : k = i := by omega
        have hb : decide (y ≤ F.b k) = true := by have := HI.out.2.2 hlt; simp; omega
        have HA := hid (at1_any (y := y) (F.b k) wr HC.out)
        rw [hb] at HA
        clear hb
        go_wp2_with (go_at_call 179; refine HA.out.mono ?_; rintro e w2 ⟨rfl, rfl⟩)
        go_ret
        exact ⟨by simp, rfl⟩
    · obtain rfl : k = F.n := by omega
      obtain rfl : i = F.n := by omega
      go_wp2_with fail
      go_ret
      exact ⟨by simp, rfl⟩
theorem len16 : Tryz.prog.arrayLen 207 = 16 := by kernel_rfl
theorem size16 (w : World) : (sizeOf (Tryz.prog.elem 207)).run Tryz.prog w = .ok 1 w := by kernel_rfl
theorem slice16 (x n : Nat) (hn : n ≤ 16) (w : World) : (Instr.sliceAt 207 (.pointer (some ⟨x, 0, none⟩)) none (some (.int .i64 n)) none).run Tryz.prog w = .ok (.slice (some ⟨x, 0, none⟩) n 16) w := by
  rw [run_sliceAt_array_h w 207 ⟨x, 0, none⟩ (by kernel_rfl) .i64 n (by omega) (by rw [len16]; omega), size16, len16]
  simp [Result.andThen, slicedAt, Addr.add]
set_option maxHeartbeats 1000000 in
theorem of_at {x c i : Nat} {F : Fw} {y : Int} (w : World) (h : FwAt 212 w x F) (hn : F.n ≤ 16) (hc : w.heap[c]? = some (.cells #[.int .u8 y] 5 (0, 0))) (hi : IdxAt F F.n y i) :
    Calls Tryz.prog 178 #[.pointer (some ⟨x, 0, none⟩), .func (.func 179) #[] #[.pointer (some ⟨c, 0, none⟩)]] w fun e w' => e = .returned (.int .i64 i) ∧ Below w.heap.size w w' := by
  have HF := hid h
  have HI := hid hi
  have HX : Hid (∀ w1, Below w.heap.size w w1 → Calls Tryz.prog 180 #[.slice (some ⟨x, 0, none⟩) F.n 16, .func (.func 179) #[] #[.pointer (some ⟨c, 0, none⟩)]] w1 fun e w' => e = .returned (.int .i64 (if i < F.n then (i : Int) else -1)) ∧ Below w1.heap.size w1 w') := hid fun w1 hw1 => by
    refine (index_at w1 (h.same (hw1.block x h.lt)) hn (by rw [hw1.block c (lt_of_block hc)]; exact hc) hi).mono ?_
    rintro e w' ⟨rfl, rfl⟩
    exact ⟨rfl, Below.refl _ _⟩
  have hle : i ≤ F.n := hi.1
  have hsl := slice16 x F.n hn
  clear h hc hi
  by_cases hlt : i < F.n
  · simp only [hlt, if_true] at HX
    have HLT := hid hlt
    clear hlt
    go_enter Tryz.func178, Tryz.ntmps178
    go_wp2_with fail
    refine wp_region_seq 11 (fun w1 => Below (w).heap.size (w) w1) (by kernel_rfl) (by kernel_rfl) (by kernel_rfl) ⟨rfl, rfl, rfl, Nat.le_refl _, fun _ _ => rfl⟩ ?_
    dsimp only [List.take]
    iterate 11
      refine Seq.cons (a' := ?_) ?_ ?_ ?_
      rotate_left
      ·
        intro w1 hw1
        have hF1 := HF.out.same (hw1.block x HF.out.lt); have n0 := hF1.num.1
        go_wp2_with (go_at_call 180; refine (HX.out _ hw1).mono ?_; rintro e w' ⟨rfl, hb⟩)
        refine ⟨?_, by first | assumption | (simpa using below_chain hw1 hb hw1.size)⟩
        exact rfl
      · kernel_rfl
    refine SeqI.nil ?_
    intro _ w1 _ hw1
    dsimp only [List.drop]
    go_wp2
    go_ret
    exact ⟨rfl, hw1⟩
  · simp only [hlt, if_false] at HX
    obtain rfl : i = F.n := by omega
    clear hlt
    go_enter Tryz.func178, Tryz.ntmps178
    go_wp2_with fail
    refine wp_region_seq 11 (fun w1 => Below (w).heap.size (w) w1) (by kernel_rfl) (by kernel_rfl) (by kernel_rfl) ⟨rfl, rfl, rfl, Nat.le_refl _, fun _ _ => rfl⟩ ?_
    dsimp only [List.take]
    iterate 11
      refine Seq.cons (a' := ?_) ?_ ?_ ?_
      rotate_left
      ·
        intro w1 hw1
        have hF1 := HF.out.same (hw1.block x HF.out.lt); have n0 := hF1.num.1
        go_wp2_with (go_at_call 180; refine (HX.out _ hw1).mono ?_; rintro e w' ⟨rfl, hb⟩)
        refine ⟨?_, by first | assumption | (simpa using below_chain hw1 hb hw1.size)⟩
        exact rfl
      · kernel_rfl
    refine SeqI.nil ?_
    intro _ w1 _ hw1
    dsimp only [List.drop]
    have hF1 := HF.out.same (hw1.block x HF.out.lt)
    have n0 := hF1.num.1
    clear hF1
    go_wp2
    go_ret
    exact ⟨rfl, hw1⟩
end Go.Proofs.YtnngicopphiaaaaGreatDoor.F

namespace Go.Proofs.YtnngicopphiaaaaGreatDoor.F
set_option maxRecDepth 8000
open Go.ChangeShapes Go.WideShapes Go.ChangeAt Go.RowKit Go.Burg
theorem blk0 {w w1 : World} {b : Nat} {o : Obj} (h : w.heap[b]? = some o) (hb : Below w.heap.size w w1) : w1.heap[b]? = some o := (hb.block b (lt_of_block h)).trans h
set_option maxHeartbeats 1000000 in
theorem fat_at {x i : Nat} {F : Fw} {y : Int} (w : World) (h : FwAt 212 w x F) (hn : F.n ≤ 16) (hi : IdxAt F F.n y i) (r : Bool) (hr : (decide (i < F.n) && decide (F.b i = y)) = r) :
    Calls Tryz.prog 175 #[.pointer (some ⟨x, 0, none⟩), .int .u8 y] w fun e w' => e = .returned (.tuple #[.int .i64 i, .bool r]) ∧ Below w.heap.size w w' := by
  have hmf : ∀ (fn : Fn) (first cap : Array Value) (w : World), (Instr.makeFunc fn first cap).run Tryz.prog w = .ok (.func fn first cap) w := fun _ _ _ _ => rfl
  have hc := heap_new w (.cells #[.int .u8 y] 5 (0, 0))
  have hF : FwAt 212 (w.alloc (.cells #[.int .u8 y] 5 (0, 0))) x F := h.same (Below.heap_alloc _ _ _ h.lt)
  have HO := hid (of_at (w.alloc (.cells #[.int .u8 y] 5 (0, 0))) hF hn hc hi)
  have hB : Below w.heap.size w (w.alloc (.cells #[.int .u8 y] 5 (0, 0))) := (Below.refl _ _).alloc (Nat.le_refl _) _
  have hle : i ≤ F.n := hi.1
  have HF0 := hid hF
  have HC0 := hid hc
  have HB := hid hB
  clear h hc hF hB hi
  go_enter Tryz.func175, Tryz.ntmps175
  go_wp2_with (go_at_call 178; refine HO.out.mono ?_; rintro e wa ⟨rfl, hb0⟩)
  have HF := hid (HF0.out.same (hb0.block x HF0.out.lt))
  have HC := hid (blk0 HC0.out hb0)
  have HB1 := hid (below_chain HB.out hb0 HB.out.size)
  clear hb0 HO HF0 HC0 HB
  by_cases hlt : i < F.n
  · have hi16 : i < 16 := by omega
    have hd : decide ((i : Int) < F.n) = true := by simp; exact hlt
    have hd3 : decide (i < F.n) = true := by simp; exact hlt
    have hd2 : decide (16 ≤ i) = false := by simp; omega
    have hr' : (F.b i == y) = r := by rw [← hr]; simp [hlt]; rfl
    have HR := hid hr'
    clear hr hlt hr'
    refine wp_region_seq 19 (fun w1 => Below (wa).heap.size (wa) w1) (by kernel_rfl) (by kernel_rfl) (by kernel_rfl) ⟨rfl, rfl, rfl, Nat.le_refl _, fun _ _ => rfl⟩ ?_
    dsimp only [List.take]
    iterate 19
      refine Seq.cons (a' := ?_) ?_ ?_ ?_
      rotate_left
      ·
        intro w1 hw1
        have hF1 := HF.out.same (hw1.block x HF.out.lt); have n0 := hF1.num.1; have y0 := cell_of (blk0 HC.out hw1) 0; have b0 := hF1.byte hi16
        go_wp2_with (fail)
        refine ⟨?_, by first | assumption | (simpa using below_chain hw1 hb hw1.size)⟩
        exact rfl
      · kernel_rfl
    refine SeqI.nil ?_
    intro _ w1 _ hw1
    dsimp only [List.drop]
    go_wp2
    go_ret2
    exact ⟨by first | rfl | simp [HR.out], HB1.out.trans (hw1.mono HB1.out.size)⟩
  · obtain rfl : i = F.n := by omega
    have hr' : r = false := by rw [← hr]; simp
    subst hr'
    clear hr hlt
    refine wp_region_seq 19 (fun w1 => Below (wa).heap.size (wa) w1) (by kernel_rfl) (by kernel_rfl) (by kernel_rfl) ⟨rfl, rfl, rfl, Nat.le_refl _, fun _ _ => rfl⟩ ?_
    dsimp only [List.take]
    iterate 19
      refine Seq.cons (a' := ?_) ?_ ?_ ?_
      rotate_left
      ·
        intro w1 hw1
        have hF1 := HF.out.same (hw1.block x HF.out.lt); have n0 := hF1.num.1; have y0 := cell_of (blk0 HC.out hw1) 0
        go_wp2_with (fail)
        refine ⟨?_, by first | assumption | (simpa using below_chain hw1 hb hw1.size)⟩
        exact rfl
      · kernel_rfl
    refine SeqI.nil ?_
    intro _ w1 _ hw1
    dsimp only [List.drop]
    go_wp2
    go_ret2
    exact ⟨rfl, HB1.out.trans (hw1.mono HB1.out.size)⟩
def fw0 (r : Nat) : Fw := ⟨fun _ => 0, fun _ => 0, fun _ => 0, 0, r⟩
theorem fNew_at (r : Nat) (hr : r = 4 ∨ r = 16) (w : World) : Calls Tryz.prog 123 #[.int .i64 r] w fun e w' => e = .returned (.tuple #[.pointer (some ⟨w.heap.size, 0, none⟩), .int .i64 0]) ∧ FwAt 212 w' w.heap.size (fw0 r) ∧ Below w.heap.size w w' := by
  rcases hr with rfl | rfl
  all_goals
    go_enter Tryz.func123, Tryz.ntmps123
    go_wp2
    go_ret2
    exact ⟨rfl, heap_new _ _, (Below.refl _ _).alloc (Nat.le_refl _) _⟩
set_option maxHeartbeats 1000000 in
theorem fFind_yes {x i : Nat} {F : Fw} {y : Int} (w : World) (h : FwAt 212 w x F) (hn : F.n ≤ 16) (hr : 1 ≤ F.room) (hi : IdxAt F F.n y i) (hlt : i < F.n) (hy : F.b i = y) :
    Calls Tryz.prog 167 #[.pointer (some ⟨x, 0, none⟩), .int .u8 y] w fun e w' => e = .returned (.tuple #[.agg #[.int .i64 (F.s i), .int .u32 (F.g i)], .bool true]) ∧ Below w.heap.size w w' := by
  have hk := heap_new w (.cells #[.int .i64 0, .int .u32 0] 30 (0, 0))
  have hF : FwAt 212 (w.alloc (.cells #[.int .i64 0, .int .u32 0] 30 (0, 0))) x F := h.same (Below.heap_alloc _ _ _ h.lt)
  have hB : Below w.heap.size w (w.alloc (.cells #[.int .i64 0, .int .u32 0] 30 (0, 0))) := (Below.refl _ _).alloc (Nat.le_refl _) _
  have HT := hid (there_at _ hF hr)
  have HA := hid (fat_at (w.alloc (.cells #[.int .i64 0, .int .u32 0] 30 (0, 0))) hF hn hi true (by simp [hlt, hy]))
  have HF0 := hid hF
  have HK0 := hid hk
  have HB := hid hB
  have hi16 : i < 16 := by omega
  have hd2 : decide (16 ≤ i) = false := by simp; omega
  have hne : w.heap.size ≠ x := by have := h.lt; omega
  clear h hk hF hB hi hlt hy
  go_enter Tryz.func167, Tryz.ntmps167
  go_wp2_with (first | (go_at_call 174; refine HT.out.mono ?_; rintro e w2 ⟨rfl, rfl⟩) | (go_at_call 175; refine HA.out.mono ?_; rintro e wa ⟨rfl, hb⟩; have hF1 := HF0.out.same (hb.block x HF0.out.lt); have hR := hF1.ref hi16; have r0 := hR.1; have r1 := hR.2; have hK := blk0 HK0.out hb; have q0 := cell_of hK 0; have q1 := cell_of hK 1; have qf := free_of hK; have HB1 := hid (below_chain HB.out hb HB.out.size); clear hb hF1 hR hK))
  refine bodyPost_ret (v := .tuple #[.agg #[_, _], _]) (by simp [results, Tryz.results167, go_sem, q0, q1]) rfl ⟨rfl, ?_⟩
  exact (HB1.out.setCell (Nat.le_refl _) _).setCell (Nat.le_refl _) _
set_option maxHeartbeats 1000000 in
theorem fFind_no {x i : Nat} {F : Fw} {y : Int} (w : World) (h : FwAt 212 w x F) (hn : F.n ≤ 16) (hr : 1 ≤ F.room) (hi : IdxAt F F.n y i) (hno : ¬ (i < F.n ∧ F.b i = y)) :
    Calls Tryz.prog 167 #[.pointer (some ⟨x, 0, none⟩), .int .u8 y] w fun e w' => e = .returned (.tuple #[.agg #[.int .i64 0, .int .u32 0], .bool false]) ∧ Below w.heap.size w w' := by
  have hk := heap_new w (.cells #[.int .i64 0, .int .u32 0] 30 (0, 0))
  have hF : FwAt 212 (w.alloc (.cells #[.int .i64 0, .int .u32 0] 30 (0, 0))) x F := h.same (Below.heap_alloc _ _ _ h.lt)
  have hB : Below w.heap.size w (w.alloc (.cells #[.int .i64 0, .int .u32 0] 30 (0, 0))) := (Below.refl _ _).alloc (Nat.le_refl _) _
  have HT := hid (there_at _ hF hr)
  have HA := hid (fat_at (w.alloc (.cells #[.int .i64 0, .int .u32 0] 30 (0, 0))) hF hn hi false (by rw [Bool.and_eq_false_iff]; by_cases hlt : i < F.n; exact .inr (by simp; exact fun e => hno ⟨hlt, e⟩); exact .inl (by simpa using hlt)))
  have HK0 := hid hk
  have HB := hid hB
  clear h hk hF hB hi hno
  go_enter Tryz.func167, Tryz.ntmps167
  go_wp2_with (first | (go_at_call 174; refine HT.out.mono ?_; rintro e w2 ⟨rfl, rfl⟩) | (go_at_call 175; refine HA.out.mono ?_; rintro e wa ⟨rfl, hb⟩; have hK := blk0 HK0.out hb; have q0 := cell_of hK 0; have q1 := cell_of hK 1; have qf := free_of hK; have HB1 := hid (below_chain HB.out hb HB.out.size); clear hb hK))
  refine bodyPost_ret (v := .tuple #[.agg #[_, _], _]) (by simp [results, Tryz.results167, go_sem, q0, q1]) rfl ⟨rfl, ?_⟩
  exact (HB1.out.setCell (Nat.le_refl _) _).setCell (Nat.le_refl _) _
end Go.Proofs.YtnngicopphiaaaaGreatDoor.F

namespace Go.Burg
open Go Go.RowKit
def fwCell (F : Fw) (k : Nat) : Value :=
  if k < 16 then .int .u8 (F.b k) else if k < 48 then (if k % 2 = 0 then .int .i64 (F.s ((k - 16) / 2)) else .int .u32 (F.g ((k - 16) / 2))) else if k = 48 then .int .i64 F.n else .int .i64 F.room
theorem fwRow_len (F : Fw) : (FwRow F).length = 50 := rfl
theorem fwRow_get (F : Fw) {k : Nat} (hk : k < 50) : (FwRow F)[k]? = some (fwCell F k) := by
  unfold FwRow fwCell
  by_cases h1 : k < 16
  · rw [if_pos h1, List.append_assoc, List.getElem?_append_left (by rw [fwB_len]; exact h1)]
    simp [fwB, h1]
  · rw [if_neg h1, List.append_assoc, List.getElem?_append_right (by rw [fwB_len]; omega), fwB_len]
    by_cases h2 : k < 48
    · rw [if_pos h2, List.getElem?_append_left (by rw [fwR_len]; omega)]
      obtain ⟨e1, e2⟩ := fwR_at F (i := (k - 16) / 2) (by omega)
      by_cases h3 : k % 2 = 0
      · rw [if_pos h3, ← e1]; congr 1; omega
      · rw [if_neg h3, ← e2]; congr 1; omega
    · rw [if_neg h2, List.getElem?_append_right (by rw [fwR_len]; omega), fwR_len]
      rcases (by omega : k = 48 ∨ k = 49) with rfl | rfl <;> rfl
theorem row_ext {F : Fw} {l : List Value} (hl : l.length = 50) (h : ∀ k, k < 50 → l[k]? = some (fwCell F k)) : l = FwRow F := by
  refine List.ext_getElem? fun k => ?_
  by_cases hk : k < 50
  · rw [h k hk, fwRow_get F hk]
  · rw [List.getElem?_eq_none (by omega), List.getElem?_eq_none (by rw [fwRow_len]; omega)]
theorem splice_get {l cs : List Value} {o k : Nat} (hf : o + cs.length ≤ l.length) : (l.take o ++ cs ++ l.drop (o + cs.length))[k]? = if o ≤ k ∧ k < o + cs.length then cs[k - o]? else l[k]? := by
  have ht : (l.take o).length = o := by simp; omega
  by_cases h1 : k < o
  · rw [if_neg (by omega), List.append_assoc, List.getElem?_append_left (by omega), List.getElem?_take, if_pos h1]
  · by_cases h2 : k < o + cs.length
    · rw [if_pos ⟨by omega, h2⟩, List.append_assoc, List.getElem?_append_right (by omega), ht, List.getElem?_append_left (by omega)]
    · rw [if_neg (by omega), List.getElem?_append_right (by rw [List.length_append]; omega), List.getElem?_drop, List.length_append, ht]
      congr 1
      omega
def Fw.upB (F : Fw) (n : Nat) : Fw := { F with b := fun j => if n < j ∧ j ≤ F.n then F.b (j - 1) else F.b j }
def Fw.upR (F : Fw) (n : Nat) : Fw := { F with s := fun j => if n < j ∧ j ≤ F.n then F.s (j - 1) else F.s j, g := fun j => if n < j ∧ j ≤ F.n then F.g (j - 1) else F.g j }
theorem upB_row (F : Fw) {n : Nat} (hn : n ≤ F.n) (h15 : F.n ≤ 15) :
    (FwRow F).take (n + 1) ++ (List.range (F.n - n)).map (fun j => Value.int .u8 (F.b (n + j))) ++ (FwRow F).drop (n + 1 + ((List.range (F.n - n)).map (fun j => Value.int .u8 (F.b (n + j)))).length) = FwRow (F.upB n) := by
  have hlen : ((List.range (F.n - n)).map (fun j => Value.int .u8 (F.b (n + j)))).length = F.n - n := by simp
  refine row_ext ?_ fun k hk => ?_
  · simp only [List.length_append, List.length_take, List.length_drop, hlen, fwRow_len]; omega
  · rw [splice_get (by rw [hlen, fwRow_len]; omega), hlen]
    by_cases h1 : n + 1 ≤ k ∧ k < n + 1 + (F.n - n)
    · rw [if_pos h1]
      have h2 : k - (n + 1) < F.n - n := by omega
      have h3 : k < 16 := by omega
      have h4 : n < k ∧ k ≤ F.n := by omega
      simp only [List.getElem?_map, List.getElem?_range h2, Option.map_some, fwCell, if_pos h3, Fw.upB, if_pos h4]
      congr 3
      omega
    · rw [if_neg h1, fwRow_get F hk]
      unfold fwCell Fw.upB
      by_cases h3 : k < 16
      · simp only [if_pos h3]
        rw [if_neg (by omega)]
      · simp only [if_neg h3]
theorem pairs_len (f g : Nat → Value) (m : Nat) : ((List.range m).flatMap fun i => [f i, g i]).length = m * 2 := by
  induction m with
  | zero => rfl
  | succ m ih => rw [List.range_succ, List.flatMap_append, List.length_append, ih]; simp; omega
theorem pairs_get (f g : Nat → Value) (m : Nat) {k : Nat} (hk : k < m * 2) : ((List.range m).flatMap fun i => [f i, g i])[k]? = some (if k % 2 = 0 then f (k / 2) else g (k / 2)) := by
  induction m with
  | zero => omega
  | succ m ih =>
    rw [List.range_succ, List.flatMap_append]
    by_cases h : k < m * 2
    · rw [List.getElem?_append_left (by rw [pairs_len]; exact h), ih h]
    · rw [List.getElem?_append_right (by rw [pairs_len]; omega), pairs_len]
      rcases (by omega : k = m * 2 ∨ k = m * 2 + 1) with rfl | rfl
      · have e1 : m * 2 - m * 2 = 0 := by omega
        have e2 : m * 2 / 2 = m := by omega
        rw [if_pos (by omega), e1, e2]
        simp
      · have e1 : m * 2 + 1 - m * 2 = 1 := by omega
        have e2 : (m * 2 + 1) / 2 = m := by omega
        rw [if_neg (by omega), e1, e2]
        simp
theorem upR_row (F : Fw) {n : Nat} (hn : n ≤ F.n) (h15 : F.n ≤ 15) :
    (FwRow F).take (16 + (n + 1) * 2) ++ ((List.range (F.n - n)).flatMap fun j => [Value.int .i64 (F.s (n + j)), Value.int .u32 (F.g (n + j))]) ++ (FwRow F).drop (16 + (n + 1) * 2 + ((List.range (F.n - n)).flatMap fun j => [Value.int .i64 (F.s (n + j)), Value.int .u32 (F.g (n + j))]).length) = FwRow (F.upR n) := by
  have hlen := pairs_len (fun j => Value.int .i64 (F.s (n + j))) (fun j => Value.int .u32 (F.g (n + j))) (F.n - n)
  refine row_ext ?_ fun k hk => ?_
  · simp only [List.length_append, List.length_take, List.length_drop, hlen, fwRow_len]; omega
  · rw [splice_get (by rw [hlen, fwRow_len]; omega), hlen]
    by_cases h1 : 16 + (n + 1) * 2 ≤ k ∧ k < 16 + (n + 1) * 2 + (F.n - n) * 2
    · rw [if_pos h1, pairs_get _ _ _ (by omega)]
      have h3 : ¬ k < 16 := by omega
      have h4 : k < 48 := by omega
      have h5 : n < (k - 16) / 2 ∧ (k - 16) / 2 ≤ F.n := by omega
      have h6 : n + (k - (16 + (n + 1) * 2)) / 2 = (k - 16) / 2 - 1 := by omega
      have h7 : (k - (16 + (n + 1) * 2)) % 2 = k % 2 := by omega
      unfold fwCell Fw.upR
      simp only [if_neg h3, if_pos h4, if_pos h5, h6, h7]
    · rw [if_neg h1, fwRow_get F hk]
      unfold fwCell Fw.upR
      by_cases h3 : k < 16
      · simp only [if_pos h3]
      · by_cases h4 : k < 48
        · have h5 : ¬ (n < (k - 16) / 2 ∧ (k - 16) / 2 ≤ F.n) := by omega
          simp only [if_neg h3, if_pos h4, if_neg h5]
        · simp only [if_neg h3, if_neg h4]
end Go.Burg

namespace Go.Proofs.YtnngicopphiaaaaGreatDoor.F
set_option maxRecDepth 8000
open Go.ChangeShapes Go.WideShapes Go.ChangeAt Go.RowKit Go.Burg
theorem addr_add (x n j : Nat) : (⟨x, n, none⟩ : Addr).add j = ⟨x, n + j, none⟩ := by unfold Addr.add; split <;> simp_all
theorem copyB_at {x n : Nat} {F : Fw} (ty : TypeId) (w : World) (h : FwAt 212 w x F) (hn : n ≤ F.n) (h15 : F.n ≤ 15) :
    (Builtin.copy_ #[51, 51] ty #[.slice (some ⟨x, n + 1, none⟩) (15 - n) (15 - n), .slice (some ⟨x, n, none⟩) (F.n - n) (16 - n)]).run Tryz.prog w = .ok (goInt ((F.n - n : Nat))) (w.setRow x (FwRow (F.upB n)).toArray) := by
  have hm : Nat.min (F.n - n) (15 - n) = F.n - n := Nat.min_eq_left (by omega)
  have := run_copy_rowc (P := Tryz.prog) w 51 51 ty 5 x (n + 1) (15 - n) (15 - n) ⟨x, n, none⟩ (F.n - n) (16 - n) (FwRow F).toArray 212 ((List.range (F.n - n)).map (fun j => Value.int .u8 (F.b (n + j)))) 1 Tryz.underlying51 (by kernel_rfl) h (by rw [hm]; simp) (fun j v hj => by
    have hj2 : j < F.n - n := by
      have := (List.getElem?_eq_some_iff.1 hj).1
      simpa using this
    simp only [List.getElem?_map, List.getElem?_range hj2, Option.map_some, Option.some.injEq] at hj
    subst hj
    rw [addr_add]
    exact h.byte (by omega)) (by simp [fwRow_len]; omega) (fun v hv => by
    obtain ⟨j, _, rfl⟩ := List.mem_map.1 hv
    rfl)
  rw [hm, List.toList_toArray, upB_row F hn h15] at this
  exact this
theorem copyR_at {x n : Nat} {F : Fw} (ty : TypeId) (w : World) (h : FwAt 212 w x F) (hn : n ≤ F.n) (h15 : F.n ≤ 15) :
    (Builtin.copy_ #[43, 43] ty #[.slice (some ⟨x, 16 + (n + 1) * 2, none⟩) (15 - n) (15 - n), .slice (some ⟨x, 16 + n * 2, none⟩) (F.n - n) (16 - n)]).run Tryz.prog w = .ok (goInt ((F.n - n : Nat))) (w.setRow x (FwRow (F.upR n)).toArray) := by
  have hm : Nat.min (F.n - n) (15 - n) = F.n - n := Nat.min_eq_left (by omega)
  have hlen := pairs_len (fun j => Value.int .i64 (F.s (n + j))) (fun j => Value.int .u32 (F.g (n + j))) (F.n - n)
  have := run_copy_rowc (P := Tryz.prog) w 43 43 ty 30 x (16 + (n + 1) * 2) (15 - n) (15 - n) ⟨x, 16 + n * 2, none⟩ (F.n - n) (16 - n) (FwRow F).toArray 212 ((List.range (F.n - n)).flatMap fun j => [Value.int .i64 (F.s (n + j)), Value.int .u32 (F.g (n + j))]) 2 Tryz.underlying43 (by kernel_rfl) h (by rw [hm, hlen]) (fun j v hj => by
    have hj2 : j < (F.n - n) * 2 := by
      have := (List.getElem?_eq_some_iff.1 hj).1
      rwa [hlen] at this
    rw [pairs_get _ _ _ hj2] at hj
    obtain ⟨e1, e2⟩ := h.ref (i := n + j / 2) (by omega)
    rw [addr_add]
    by_cases h3 : j % 2 = 0
    · rw [if_pos h3] at hj
      cases hj
      rw [← e1]; congr 2; omega
    · rw [if_neg h3] at hj
      cases hj
      rw [← e2]; congr 2; omega) (by rw [hlen]; simp [fwRow_len]; omega) (fun v hv => by
    obtain ⟨j, _, h1⟩ := List.mem_flatMap.1 hv
    simp at h1
    rcases h1 with rfl | rfl <;> rfl)
  rw [hm, List.toList_toArray, upR_row F hn h15] at this
  exact this
end Go.Proofs.YtnngicopphiaaaaGreatDoor.F
