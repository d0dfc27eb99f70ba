/- Part 4 of 51 of a proof: lemmas on the functions that it reaches. -/
import Derived.Test.YtnngicopphiaaaaGreatDoorC03
import Derived.IntWalk
namespace Go.Burg
open Go Go.RowKit
theorem wpList_copy_run {P : Program} (w : World) {ops : Array Oper} {rest : List Oper} {o : Oper} {a : Act} {Q : Exit → Act → World → Prop} (hgd : o.guard = none) (d s : Operand) (t t' : TypeId)
    (ho : o.op = .call { callee := .builtin .copy, args := #[d, s], argTypes := #[t, t'] }) (v u : Value) (hd : a.eval d = v) (hs : a.eval s = u) {v' : Value} {w' : World}
    (hr : (Builtin.copy_ #[t, t'] o.type #[v, u]).run P w = .ok v' w') (h : wpList P ops Q rest (a.put o.dst v') w') : wpList P ops Q (o :: rest) a w := by
  refine wpList_plain hgd fun K hK => ?_
  unfold Oper.wp
  simp [execOp, ho, resolve, invoke, builtin, hd, hs, hr, Result.andThen]
  exact hK _ _ h
def aUp (x o n c : Nat) : Addr := ⟨x, if n = 15 then o else o + (n + 1) * c, none⟩
def Fw.ins (F : Fw) (n : Nat) (y s g : Int) : Fw :=
  { b := fun j => if j = n then y else (F.upB n).b j, s := fun j => if j = n then s else (F.upR n).s j, g := fun j => if j = n then g else (F.upR n).g j, n := F.n + 1, room := F.room }
theorem setRow_block {w : World} {x : Nat} {cs l : Array Value} {T : TypeId} {fz : Nat × Nat} (h : w.heap[x]? = some (.cells cs T fz)) : (w.setRow x l).heap[x]? = some (.cells l T fz) := setRow_heap w x _ _ T fz h
theorem mod_setRow (w : World) (x : Nat) (l : Array Value) : Mod (· = x) w (w.setRow x l) := ⟨rfl, rfl, rfl, by simp [World.setRow], fun k _ hk => setRow_other w x k l hk⟩
end Go.Burg
namespace Go.Proofs.YtnngicopphiaaaaGreatDoor.F
set_option maxRecDepth 8000
open Go.ChangeShapes Go.WideShapes Go.ChangeAt Go.RowKit Go.Burg
theorem lenR16 : Tryz.prog.arrayLen 208 = 16 := by kernel_rfl
theorem sizeR16 (w : World) : (sizeOf (Tryz.prog.elem 208)).run Tryz.prog w = .ok 2 w := by kernel_rfl
theorem upB_slice (x n : Nat) (hn : n ≤ 15) (w : World) : (Instr.sliceAt 207 (.pointer (some ⟨x, 0, none⟩)) (some (.int .i64 (n + 1))) none none).run Tryz.prog w = .ok (.slice (some (aUp x 0 n 1)) (15 - n) (15 - n)) w := by
  rw [run_sliceAt_array_l w 207 ⟨x, 0, none⟩ (by kernel_rfl) .i64 ((n : Int) + 1) (by omega) (by rw [len16]; omega), size16, len16]
  simp only [Result.andThen_ok, slicedAt, aUp]
  have e : ((n : Int) + 1).toNat = n + 1 := by omega
  rw [e]
  by_cases h : n = 15
  · subst h; rfl
  · have h1 : ¬ (16 = n + 1) := by omega
    rw [if_neg h1, if_neg h, addr_add, show 16 - (n + 1) = 15 - n by omega]
theorem midB_slice (x n m : Nat) (hn : n ≤ m) (hm : m ≤ 15) (w : World) : (Instr.sliceAt 207 (.pointer (some ⟨x, 0, none⟩)) (some (.int .i64 n)) (some (.int .i64 m)) none).run Tryz.prog w = .ok (.slice (some ⟨x, n, none⟩) (m - n) (16 - n)) w := by
  rw [run_sliceAt_array_lh w 207 ⟨x, 0, none⟩ (by kernel_rfl) .i64 .i64 (n : Int) m (by omega) (by omega) (by rw [len16]; omega), size16, len16]
  simp only [Result.andThen_ok, slicedAt]
  have e : ((n : Int)).toNat = n := by omega
  have e2 : ((m : Int)).toNat = m := by omega
  rw [e, e2, if_neg (by omega), addr_add, Nat.zero_add, Nat.mul_one]
theorem upR_slice (x n : Nat) (hn : n ≤ 15) (w : World) : (Instr.sliceAt 208 (.pointer (some ⟨x, 16, none⟩)) (some (.int .i64 (n + 1))) none none).run Tryz.prog w = .ok (.slice (some (aUp x 16 n 2)) (15 - n) (15 - n)) w := by
  rw [run_sliceAt_array_l w 208 ⟨x, 16, none⟩ (by kernel_rfl) .i64 ((n : Int) + 1) (by omega) (by rw [lenR16]; omega), sizeR16, lenR16]
  simp only [Result.andThen_ok, slicedAt, aUp]
  have e : ((n : Int) + 1).toNat = n + 1 := by omega
  rw [e]
  by_cases h : n = 15
  · subst h; rfl
  · have h1 : ¬ (16 = n + 1) := by omega
    rw [if_neg h1, if_neg h, addr_add, show 16 - (n + 1) = 15 - n by omega]
theorem midR_slice (x n m : Nat) (hn : n ≤ m) (hm : m ≤ 15) (w : World) : (Instr.sliceAt 208 (.pointer (some ⟨x, 16, none⟩)) (some (.int .i64 n)) (some (.int .i64 m)) none).run Tryz.prog w = .ok (.slice (some ⟨x, 16 + n * 2, none⟩) (m - n) (16 - n)) w := by
  rw [run_sliceAt_array_lh w 208 ⟨x, 16, none⟩ (by kernel_rfl) .i64 .i64 (n : Int) m (by omega) (by omega) (by rw [lenR16]; omega), sizeR16, lenR16]
  simp only [Result.andThen_ok, slicedAt]
  have e : ((n : Int)).toNat = n := by omega
  have e2 : ((m : Int)).toNat = m := by omega
  rw [e, e2, if_neg (by omega), addr_add]
theorem copyB_up {x n : Nat} {F : Fw} (ty : TypeId) (w : World) (h : FwAt 212 w x F) (hn : n ≤ F.n) (h15 : F.n ≤ 15) :
    (Builtin.copy_ #[51, 51] ty #[.slice (some (aUp x 0 n 1)) (15 - n) (15 - n), .slice (some ⟨x, n, none⟩) (F.n - n) (16 - n)]).run Tryz.prog w = .ok (goInt ((F.n - n : Nat))) (w.setRow x (FwRow (F.upB n)).toArray) := by
  by_cases h1 : n = 15
  · obtain rfl := h1
    have e : F.n = 15 := by omega
    have := run_copy_rowc (P := Tryz.prog) w 51 51 ty 5 x 0 0 0 ⟨x, 15, none⟩ 0 1 (FwRow F).toArray 212 [] 1 Tryz.underlying51 (by kernel_rfl) h (by simp) (by simp) (by simp) (by simp)
    rw [e]
    refine this.trans ?_
    rw [List.toList_toArray]
    have h2 := upB_row F (n := 15) (by omega) (by omega)
    rw [← h2, e]
    simp
  · have e : aUp x 0 n 1 = ⟨x, n + 1, none⟩ := by unfold aUp; rw [if_neg h1, Nat.zero_add, Nat.mul_one]
    rw [e]
    exact copyB_at ty w h hn h15
theorem copyR_up {x n : Nat} {F : Fw} (ty : TypeId) (w : World) (h : FwAt 212 w x F) (hn : n ≤ F.n) (h15 : F.n ≤ 15) :
    (Builtin.copy_ #[43, 43] ty #[.slice (some (aUp x 16 n 2)) (15 - n) (15 - n), .slice (some ⟨x, 16 + n * 2, none⟩) (F.n - n) (16 - n)]).run Tryz.prog w = .ok (goInt ((F.n - n : Nat))) (w.setRow x (FwRow (F.upR n)).toArray) := by
  by_cases h1 : n = 15
  · obtain rfl := h1
    have e : F.n = 15 := by omega
    have := run_copy_rowc (P := Tryz.prog) w 43 43 ty 30 x 16 0 0 ⟨x, 16 + 15 * 2, none⟩ 0 1 (FwRow F).toArray 212 [] 2 Tryz.underlying43 (by kernel_rfl) h (by simp) (by simp) (by simp [fwRow_len]) (by simp)
    rw [e]
    refine this.trans ?_
    rw [List.toList_toArray]
    have h2 := upR_row F (n := 15) (by omega) (by omega)
    rw [← h2, e]
    simp
  · have e : aUp x 16 n 2 = ⟨x, 16 + (n + 1) * 2, none⟩ := by unfold aUp; rw [if_neg h1]
    rw [e]
    exact copyR_at ty w h hn h15
end Go.Proofs.YtnngicopphiaaaaGreatDoor.F

namespace Go.Burg
open Go
def Turn2 (c d : Nat) (S : Bool → Bool → World → Prop) : (Nat → Bool) → World → Prop := fun D w => S (D c) (D d) w
section
variable {P : Program} {ops : Array Oper} {S : Bool → Bool → World → Prop} {c d k : Nat} {o : Oper} {l : List Oper} {a a' : Act} {K : Act → Prop}
theorem Seq2.calm (hc : c ≠ k) (hd : d ≠ k) (h : ∀ b1 b2 w, S b1 b2 w → wpList P ops (Alone fun a1 w' => a1 = a' ∧ S b1 b2 w') [o] a w)
    (hp : a' = a.put o.dst (a'.tmps.getD (o.dst.getD 0) undef)) (k1 : SeqI P ops (Turn2 c d S) (k + 1) l a' K) : SeqI P ops (Turn2 c d S) k (o :: l) a K :=
  ⟨a', fun D w _ _ hI => alone_mono _ _ (by
    rintro a1 w' ⟨rfl, h1⟩
    refine ⟨rfl, ?_⟩
    unfold Turn2
    have e1 : (c == k) = false := by simpa using hc
    have e2 : (d == k) = false := by simpa using hd
    simpa [e1, e2] using h1) (h _ _ w hI), hp, k1⟩
theorem Seq2.fst (hd : d ≠ c) (h : ∀ b2 w, S false b2 w → wpList P ops (Alone fun a1 w' => a1 = a' ∧ S true b2 w') [o] a w)
    (hp : a' = a.put o.dst (a'.tmps.getD (o.dst.getD 0) undef)) (k1 : SeqI P ops (Turn2 c d S) (c + 1) l a' K) : SeqI P ops (Turn2 c d S) c (o :: l) a K :=
  ⟨a', fun D w hD _ hI => alone_mono _ _ (by
    rintro a1 w' ⟨rfl, h1⟩
    refine ⟨rfl, ?_⟩
    unfold Turn2
    have e2 : (d == c) = false := by simpa using hd
    simpa [e2] using h1) (h (D d) w (by unfold Turn2 at hI; rw [hD] at hI; exact hI)), hp, k1⟩
theorem Seq2.snd (hc : c ≠ d) (h : ∀ b1 w, S b1 false w → wpList P ops (Alone fun a1 w' => a1 = a' ∧ S b1 true w') [o] a w)
    (hp : a' = a.put o.dst (a'.tmps.getD (o.dst.getD 0) undef)) (k1 : SeqI P ops (Turn2 c d S) (d + 1) l a' K) : SeqI P ops (Turn2 c d S) d (o :: l) a K :=
  ⟨a', fun D w hD _ hI => alone_mono _ _ (by
    rintro a1 w' ⟨rfl, h1⟩
    refine ⟨rfl, ?_⟩
    unfold Turn2
    have e2 : (c == d) = false := by simpa using hc
    simpa [e2] using h1) (h (D c) w (by unfold Turn2 at hI; rw [hD] at hI; exact hI)), hp, k1⟩
theorem Turn2.start {w : World} (h : S false false w) : Turn2 c d S (fun _ => false) w := h
theorem Turn2.done {D : Nat → Bool} {w : World} (h : Turn2 c d S D w) (hc : D c = true) (hd : D d = true) : S true true w := by
  unfold Turn2 at h
  rwa [hc, hd] at h
end
end Go.Burg

namespace Go.Burg
open Go Go.RowKit
theorem ins_row (F : Fw) {n : Nat} (y s g : Int) (hn : n ≤ F.n) (h15 : F.n ≤ 15) :
    ((((((FwRow ((F.upB n).upR n)).set n (.int .u8 y)).set (16 + n * 2) (.int .i64 s)).set (16 + n * 2 + 1) (.int .u32 g)).set 48 (.int .i64 ((F.n : Int) + 1)))) = FwRow (F.ins n y s g) := by
  refine row_ext (by simp [fwRow_len]) fun k hk => ?_
  have h0 := fwRow_get ((F.upB n).upR n) hk
  have hlen := fwRow_len ((F.upB n).upR n)
  simp only [List.getElem?_set, List.length_set, hlen]
  by_cases h48 : 48 = k
  · subst h48; simp [fwCell, Fw.ins]
  rw [if_neg h48]
  by_cases h1 : 16 + n * 2 + 1 = k
  · subst h1
    have e1 : ¬ (16 + n * 2 + 1 < 16) := by omega
    have e2 : 16 + n * 2 + 1 < 48 := by omega
    have e3 : ¬ ((16 + n * 2 + 1) % 2 = 0) := by omega
    have e4 : (16 + n * 2 + 1 - 16) / 2 = n := by omega
    simp only [fwCell, if_neg e1, if_pos e2, if_neg e3, e4, Fw.ins]
    simp
    omega
  rw [if_neg h1]
  by_cases h2 : 16 + n * 2 = k
  · subst h2
    have e1 : ¬ (16 + n * 2 < 16) := by omega
    have e2 : 16 + n * 2 < 48 := by omega
    have e3 : ((16 + n * 2) % 2 = 0) := by omega
    have e4 : (16 + n * 2 - 16) / 2 = n := by omega
    simp [fwCell, e1, e2, e3, Fw.ins, show 16 + n * 2 < 50 by omega]
  rw [if_neg h2]
  by_cases h3 : n = k
  · subst h3
    simp [fwCell, Fw.ins, show n < 16 by omega, show n < 50 by omega]
  rw [if_neg h3, h0]
  unfold fwCell Fw.ins
  by_cases h4 : k < 16
  · simp only [if_pos h4]
    rw [if_neg (fun e => h3 e.symm)]
    rfl
  · by_cases h5 : k < 48
    · have e : ¬ ((k - 16) / 2 = n) := by omega
      simp only [if_neg h4, if_pos h5, if_neg e]
      rfl
    · simp only [if_neg h4, if_neg h5, if_neg (show ¬ k = 48 from fun e => h48 e.symm)]
      rfl
def insMid (R : List Value) (n : Nat) (y s g : Int) (b1 b2 : Bool) : List Value :=
  cond b1 (cond b2 (((R.set (16 + n * 2) (.int .i64 s)).set (16 + n * 2 + 1) (.int .u32 g)).set n (.int .u8 y)) (R.set n (.int .u8 y))) (cond b2 ((R.set (16 + n * 2) (.int .i64 s)).set (16 + n * 2 + 1) (.int .u32 g)) R)
theorem insMid1 (R : List Value) (n : Nat) (y s g : Int) (b2 : Bool) : (insMid R n y s g false b2).set n (.int .u8 y) = insMid R n y s g true b2 := by cases b2 <;> rfl
theorem insMid2 (R : List Value) (n : Nat) (y s g : Int) (b1 : Bool) : ((insMid R n y s g b1 false).set (16 + n * 2) (.int .i64 s)).set (16 + n * 2 + 1) (.int .u32 g) = insMid R n y s g b1 true := by
  cases b1
  · rfl
  · show ((R.set n _).set _ _).set _ _ = ((R.set _ _).set _ _).set n _
    rw [List.set_comm _ _ (show n ≠ 16 + n * 2 by omega), List.set_comm _ _ (show n ≠ 16 + n * 2 + 1 by omega)]
theorem insMid_len (R : List Value) (n : Nat) (y s g : Int) (b1 b2 : Bool) : (insMid R n y s g b1 b2).length = R.length := by cases b1 <;> cases b2 <;> simp [insMid]
theorem insMid_all (R : List Value) (n : Nat) (y s g : Int) : insMid R n y s g true true = ((R.set n (.int .u8 y)).set (16 + n * 2) (.int .i64 s)).set (16 + n * 2 + 1) (.int .u32 g) := (insMid2 R n y s g true).symm
theorem cell_list {w : World} {b : Nat} {l : List Value} {T : TypeId} {fz : Nat × Nat} (h : w.heap[b]? = some (.cells l.toArray T fz)) (i : Nat) (hi : i < l.length) : w.cell? ⟨b, i, none⟩ = some l[i] := by
  rw [cell_of h, List.getElem?_toArray, List.getElem?_eq_getElem hi]
theorem blk_alloc2 {w : World} {b : Nat} {o o' : Obj} (h : w.heap[b]? = some o) : (w.alloc o').heap[b]? = some o := (Below.heap_alloc _ _ _ (lt_of_block h)).trans h
theorem set_list {w : World} {b i : Nat} {v : Value} {l : List Value} {T : TypeId} {fz : Nat × Nat} (h : w.heap[b]? = some (.cells l.toArray T fz)) : (w.setCell ⟨b, i, none⟩ v).heap[b]? = some (.cells (l.set i v).toArray T fz) := by
  rw [heap_set h]; simp
end Go.Burg
namespace Go.Proofs.YtnngicopphiaaaaGreatDoor.F
set_option maxRecDepth 8000
open Go.ChangeShapes Go.WideShapes Go.ChangeAt Go.RowKit Go.Burg
set_option maxHeartbeats 4000000 in
theorem put_at {x n : Nat} {F : Fw} (y s g : Int) (w : World) (h : FwAt 212 w x F) (hn : n ≤ F.n) (h15 : F.n ≤ 15) :
    Calls Tryz.prog 176 #[.pointer (some ⟨x, 0, none⟩), .int .i64 n, .int .u8 y, .agg #[.int .i64 s, .int .u32 g]] w fun e w' => e = .returned (.tuple #[]) ∧ FwAt 212 w' x (F.ins n y s g) ∧ Mod (· = x) w w' := by
  have hF := h.same (w' := w.alloc (.cells #[.int .i64 s, .int .u32 g] 30 (0, 0))) (Below.heap_alloc _ _ _ h.lt)
  have hN := heap_new w (.cells #[.int .i64 s, .int .u32 g] 30 (0, 0))
  have hx : w.heap.size ≠ x := by have := h.lt; omega
  have hB : Mod (· = x) w (w.alloc (.cells #[.int .i64 s, .int .u32 g] 30 (0, 0))) := (Mod.refl _ _).alloc _
  have hX := lt_of_block hN
  have s1 := upB_slice x n (by omega)
  have s2 := midB_slice x n F.n hn h15
  have s3 := upR_slice x n (by omega)
  have s4 := midR_slice x n F.n hn h15
  have HN := hid hn
  have H15 := hid h15
  have hwr : RowKit.wrap64 ((n : Int) + 1) = (n : Int) + 1 := IntWalk.wrap64_in _ (by omega)
  generalize hW : w.alloc (.cells #[.int .i64 s, .int .u32 g] 30 (0, 0)) = W at *
  generalize hu : w.heap.size = u at *
  have HW := hid hW
  have HU := hid hu
  have HF := hid hF
  have HNB := hid hN
  have HB := hid hB
  clear h hW hu hF hN hB
  go_enter Tryz.func176, Tryz.ntmps176
  go_wp2_with fail
  rw [HW.out, HU.out]
  refine wp_region_seqI 16 (Turn 15 (fun w1 => FwAt 212 w1 x F ∧ Mod (· = x) W w1) (fun w1 => FwAt 212 w1 x (F.upB n) ∧ Mod (· = x) W w1)) (by kernel_rfl) (by kernel_rfl) (by kernel_rfl) (Turn.start ⟨HF.out, (Mod.refl _ _).drew⟩) ?_
  dsimp only [List.take]
  iterate 15
    refine Seq.calm (a' := ?_) (by decide) ?_ ?_ ?_
    rotate_left
    ·
      intro w1 hw1
      have n0 : w1.cell? ⟨x, 48, none⟩ = some (.int .i64 F.n) := hw1.elim (fun h => h.1.num.1) (fun h => h.1.num.1)
      clear hw1
      go_wp2_with (fail)
      first | (refine ⟨?_, id, id⟩; exact rfl) | (refine ⟨?_, fail⟩; exact rfl)
    · kernel_rfl
  refine Seq.turn (a' := ?_) ?_ ?_ ?_
  rotate_left
  ·
    intro w1 hw1
    have hF1 := hw1.1
    have HF1 := hid hF1
    have HM1 := hid hw1.2
    clear hw1 hF1
    refine wpList_copy_run w1 rfl _ _ _ _ rfl _ _ rfl rfl (copyB_up (F := F) _ w1 HF1.out HN.out H15.out) ?_
    go_wp2_with fail
    refine ⟨?_, setRow_block HF1.out, HM1.out.trans (mod_setRow _ _ _) (fun _ _ h => h)⟩
    exact rfl
  · kernel_rfl
  iterate 0
    refine Seq.calm (a' := ?_) (by decide) ?_ ?_ ?_
    rotate_left
    ·
      intro w1 hw1
      have n0 : w1.cell? ⟨x, 48, none⟩ = some (.int .i64 F.n) := hw1.elim (fun h => h.1.num.1) (fun h => h.1.num.1)
      clear hw1
      go_wp2_with (fail)
      first | (refine ⟨?_, id, id⟩; exact rfl) | (refine ⟨?_, fail⟩; exact rfl)
    · kernel_rfl
  refine SeqI.nil ?_
  intro D w1 hD hI
  replace hI := hI.done (hD 15 (by omega))
  clear hD
  dsimp only [List.drop]
  obtain ⟨hF1, hM1⟩ := hI
  have HF1 := hid hF1
  have HM1 := hid hM1
  clear hF1 hM1 HF
  rename World => wa
  go_wp2_with fail
  refine wp_region_seqI 16 (Turn 15 (fun w1 => FwAt 212 w1 x (F.upB n) ∧ Mod (· = x) wa w1) (fun w1 => FwAt 212 w1 x ((F.upB n).upR n) ∧ Mod (· = x) wa w1)) (by kernel_rfl) (by kernel_rfl) (by kernel_rfl) (Turn.start ⟨HF1.out, (Mod.refl _ _).drew⟩) ?_
  dsimp only [List.take]
  iterate 15
    refine Seq.calm (a' := ?_) (by decide) ?_ ?_ ?_
    rotate_left
    ·
      intro w1 hw1
      have n0 : w1.cell? ⟨x, 48, none⟩ = some (.int .i64 F.n) := hw1.elim (fun h => h.1.num.1) (fun h => h.1.num.1)
      clear hw1
      go_wp2_with (fail)
      first | (refine ⟨?_, id, id⟩; exact rfl) | (refine ⟨?_, fail⟩; exact rfl)
    · kernel_rfl
  refine Seq.turn (a' := ?_) ?_ ?_ ?_
  rotate_left
  ·
    intro w1 hw1
    have hF1 := hw1.1
    have HF1 := hid hF1
    have HM1 := hid hw1.2
    clear hw1 hF1
    refine wpList_copy_run w1 rfl _ _ _ _ rfl _ _ rfl rfl (copyR_up (F := F.upB n) _ w1 HF1.out HN.out H15.out) ?_
    go_wp2_with fail
    refine ⟨?_, setRow_block HF1.out, HM1.out.trans (mod_setRow _ _ _) (fun _ _ h => h)⟩
    exact rfl
  · kernel_rfl
  iterate 0
    refine Seq.calm (a' := ?_) (by decide) ?_ ?_ ?_
    rotate_left
    ·
      intro w1 hw1
      have n0 : w1.cell? ⟨x, 48, none⟩ = some (.int .i64 F.n) := hw1.elim (fun h => h.1.num.1) (fun h => h.1.num.1)
      clear hw1
      go_wp2_with (fail)
      first | (refine ⟨?_, id, id⟩; exact rfl) | (refine ⟨?_, fail⟩; exact rfl)
    · kernel_rfl
  refine SeqI.nil ?_
  intro D w1 hD hI
  replace hI := hI.done (hD 15 (by omega))
  clear hD
  dsimp only [List.drop]
  obtain ⟨hF2, hM2⟩ := hI
  have HM2 := hid (HM1.out.trans hM2 (fun _ _ h => h))
  have HF2 := hid hF2
  clear hF2 hM2 HF1 HM1
  rename World => wb
  go_wp2_with fail
  have hrl : ∀ b1 b2, (insMid (FwRow ((F.upB n).upR n)) n y s g b1 b2).length = 50 := fun b1 b2 => by rw [insMid_len, fwRow_len]
  have HNb := hid ((HM2.out.block u hX hx).trans HNB.out)
  have HL := hid hrl
  have hd2 : decide (16 ≤ n) = false := by have := HN.out; have := H15.out; simp; omega
  clear hrl
  refine wp_region_seqI 14 (Turn2 9 13 (fun b1 b2 w1 => w1.heap[x]? = some (.cells (insMid (FwRow ((F.upB n).upR n)) n y s g b1 b2).toArray 212 (0, 0)) ∧ Mod (· = x) wb w1)) (by kernel_rfl) (by kernel_rfl) (by kernel_rfl) (Turn2.start ⟨HF2.out, (Mod.refl _ _).drew⟩) ?_
  dsimp only [List.take]
  iterate 9
    refine Seq2.calm (a' := ?_) (by decide) (by decide) ?_ ?_ ?_
    rotate_left
    ·
      intro b1 b2 w1 hw1
      have HW1 := hid hw1
      have hu := (hw1.2.block u (lt_of_block HNb.out) hx).trans HNb.out; have u0 := cell_of hu 0; have u1 := cell_of hu 1; clear hu
      clear hw1
      go_wp2_with (fail)
      refine ⟨?_, HW1.out⟩
      exact rfl
    · kernel_rfl
  refine Seq2.fst (a' := ?_) (by decide) ?_ ?_ ?_
  rotate_left
  ·
    intro b2 w1 hw1
    have HW1 := hid hw1
    obtain ⟨v0, hv0⟩ : ∃ v, w1.cell? ⟨x, n, none⟩ = some v := ⟨_, cell_list hw1.1 n (by rw [HL.out]; have := HN.out; have := H15.out; omega)⟩
    have f0 := free_of hw1.1 n
    clear hw1
    go_wp2_with fail
    refine ⟨?_, by have := set_list (i := n) (v := .int .u8 y) HW1.out.1; rwa [insMid1] at this, HW1.out.2.setCell (p := ⟨x, n, none⟩) (.inl rfl) _⟩
    exact rfl
  · kernel_rfl
  iterate 3
    refine Seq2.calm (a' := ?_) (by decide) (by decide) ?_ ?_ ?_
    rotate_left
    ·
      intro b1 b2 w1 hw1
      have HW1 := hid hw1
      have hu := (hw1.2.block u (lt_of_block HNb.out) hx).trans HNb.out; have u0 := cell_of hu 0; have u1 := cell_of hu 1; clear hu
      clear hw1
      go_wp2_with (fail)
      refine ⟨?_, HW1.out⟩
      exact rfl
    · kernel_rfl
  refine Seq2.snd (a' := ?_) (by decide) ?_ ?_ ?_
  rotate_left
  ·
    intro b1 w1 hw1
    have HW1 := hid hw1
    obtain ⟨v0, hv0⟩ : ∃ v, w1.cell? ⟨x, 16 + n * 2, none⟩ = some v := ⟨_, cell_list hw1.1 (16 + n * 2) (by rw [HL.out]; have := HN.out; have := H15.out; omega)⟩
    obtain ⟨v1, hv1⟩ : ∃ v, w1.cell? ⟨x, 16 + n * 2 + 1, none⟩ = some v := ⟨_, cell_list hw1.1 (16 + n * 2 + 1) (by rw [HL.out]; have := HN.out; have := H15.out; omega)⟩
    have f0 := free_of hw1.1
    clear hw1
    go_wp2_with fail
    refine ⟨?_, by have := set_list (i := 16 + n * 2 + 1) (v := .int .u32 g) (set_list (i := 16 + n * 2) (v := .int .i64 s) HW1.out.1); rwa [insMid2] at this, (HW1.out.2.setCell (p := ⟨x, 16 + n * 2, none⟩) (.inl rfl) _).setCell (p := ⟨x, 16 + n * 2 + 1, none⟩) (.inl rfl) _⟩
    exact rfl
  · kernel_rfl
  iterate 0
    refine Seq2.calm (a' := ?_) (by decide) (by decide) ?_ ?_ ?_
    rotate_left
    ·
      intro b1 b2 w1 hw1
      have HW1 := hid hw1
      have hu := (hw1.2.block u (lt_of_block HNb.out) hx).trans HNb.out; have u0 := cell_of hu 0; have u1 := cell_of hu 1; clear hu
      clear hw1
      go_wp2_with (fail)
      refine ⟨?_, HW1.out⟩
      exact rfl
    · kernel_rfl
  refine SeqI.nil ?_
  intro D w1 hD hI
  replace hI := hI.done (hD 9 (by omega)) (hD 13 (by omega))
  clear hD
  dsimp only [List.drop]
  obtain ⟨hR, hM⟩ := hI
  rw [insMid_all] at hR
  have hM2 := HM2.out.trans hM (fun _ _ h => h)
  have n0 : w1.cell? ⟨x, 48, none⟩ = some (.int .i64 F.n) := by
    have h0 := fwRow_get ((F.upB n).upR n) (k := 48) (by omega)
    have := HN.out
    have := H15.out
    rw [cell_of hR, List.getElem?_toArray, List.getElem?_set_ne (by omega), List.getElem?_set_ne (by omega), List.getElem?_set_ne (by omega), h0]
    rfl
  have f0 := free_of hR 48
  have HR := hid hR
  have HM3 := hid hM2
  have hwf : RowKit.wrap64 ((F.n : Int) + 1) = (F.n : Int) + 1 := IntWalk.wrap64_in _ (by have := H15.out; omega)
  clear hR hM2 hM
  go_wp2
  go_end0
  refine ⟨rfl, ?_, HB.out.trans (HM3.out.setCell (p := ⟨x, 48, none⟩) (.inl rfl) _) (fun _ _ h => h)⟩
  have := set_list (i := 48) (v := .int .i64 ((F.n : Int) + 1)) HR.out
  rw [ins_row F y s g HN.out H15.out] at this
  exact this
end Go.Proofs.YtnngicopphiaaaaGreatDoor.F

namespace Go.Burg
open Go Go.RowKit
def Fw.dnB (F : Fw) (n : Nat) : Fw := { F with b := fun j => if n ≤ j ∧ j + 1 < F.n then F.b (j + 1) else F.b j }
def Fw.dnR (F : Fw) (n : Nat) : Fw := { F with s := fun j => if n ≤ j ∧ j + 1 < F.n then F.s (j + 1) else F.s j, g := fun j => if n ≤ j ∧ j + 1 < F.n then F.g (j + 1) else F.g j }
def Fw.del (F : Fw) (n : Nat) : Fw := { (F.dnB n).dnR n with n := F.n - 1 }
theorem dnB_row (F : Fw) {n : Nat} (hn : n < F.n) (h16 : F.n ≤ 16) :
    (FwRow F).take n ++ (List.range (F.n - (n + 1))).map (fun j => Value.int .u8 (F.b (n + 1 + j))) ++ (FwRow F).drop (n + ((List.range (F.n - (n + 1))).map (fun j => Value.int .u8 (F.b (n + 1 + j)))).length) = FwRow (F.dnB n) := by
  have hlen : ((List.range (F.n - (n + 1))).map (fun j => Value.int .u8 (F.b (n + 1 + j)))).length = F.n - (n + 1) := by simp
  refine row_ext ?_ fun k hk => ?_
  · simp only [List.length_append, List.length_take, List.length_drop, hlen, fwRow_len]; omega
  · rw [splice_get (by rw [hlen, fwRow_len]; omega), hlen]
    by_cases h1 : n ≤ k ∧ k < n + (F.n - (n + 1))
    · rw [if_pos h1]
      have h2 : k - n < F.n - (n + 1) := by omega
      have h3 : k < 16 := by omega
      have h4 : n ≤ k ∧ k + 1 < F.n := by omega
      simp only [List.getElem?_map, List.getElem?_range h2, Option.map_some, fwCell, if_pos h3, Fw.dnB, if_pos h4]
      congr 3
      omega
    · rw [if_neg h1, fwRow_get F hk]
      unfold fwCell Fw.dnB
      by_cases h3 : k < 16
      · simp only [if_pos h3]
        rw [if_neg (by omega)]
      · simp only [if_neg h3]
theorem dnR_row (F : Fw) {n : Nat} (hn : n < F.n) (h16 : F.n ≤ 16) :
    (FwRow F).take (16 + n * 2) ++ ((List.range (F.n - (n + 1))).flatMap fun j => [Value.int .i64 (F.s (n + 1 + j)), Value.int .u32 (F.g (n + 1 + j))]) ++ (FwRow F).drop (16 + n * 2 + ((List.range (F.n - (n + 1))).flatMap fun j => [Value.int .i64 (F.s (n + 1 + j)), Value.int .u32 (F.g (n + 1 + j))]).length) = FwRow (F.dnR n) := by
  have hlen := pairs_len (fun j => Value.int .i64 (F.s (n + 1 + j))) (fun j => Value.int .u32 (F.g (n + 1 + j))) (F.n - (n + 1))
  refine row_ext ?_ fun k hk => ?_
  · simp only [List.length_append, List.length_take, List.length_drop, hlen, fwRow_len]; omega
  · rw [splice_get (by rw [hlen, fwRow_len]; omega), hlen]
    by_cases h1 : 16 + n * 2 ≤ k ∧ k < 16 + n * 2 + (F.n - (n + 1)) * 2
    · rw [if_pos h1, pairs_get _ _ _ (by omega)]
      have h3 : ¬ k < 16 := by omega
      have h4 : k < 48 := by omega
      have h5 : n ≤ (k - 16) / 2 ∧ (k - 16) / 2 + 1 < F.n := by omega
      have h6 : n + 1 + (k - (16 + n * 2)) / 2 = (k - 16) / 2 + 1 := by omega
      have h7 : (k - (16 + n * 2)) % 2 = k % 2 := by omega
      unfold fwCell Fw.dnR
      simp only [if_neg h3, if_pos h4, if_pos h5, h6, h7]
    · rw [if_neg h1, fwRow_get F hk]
      unfold fwCell Fw.dnR
      by_cases h3 : k < 16
      · simp only [if_pos h3]
      · by_cases h4 : k < 48
        · have h5 : ¬ (n ≤ (k - 16) / 2 ∧ (k - 16) / 2 + 1 < F.n) := by omega
          simp only [if_neg h3, if_pos h4, if_neg h5]
        · simp only [if_neg h3, if_neg h4]
theorem del_row (F : Fw) {n : Nat} (hn : n < F.n) : (FwRow ((F.dnB n).dnR n)).set 48 (.int .i64 ((F.n : Int) - 1)) = FwRow (F.del n) := by
  refine row_ext (by simp [fwRow_len]) fun k hk => ?_
  have h0 := fwRow_get ((F.dnB n).dnR n) hk
  by_cases h48 : 48 = k
  · subst h48
    rw [List.getElem?_set_self (by rw [fwRow_len]; omega)]
    have : ((F.n - 1 : Nat) : Int) = (F.n : Int) - 1 := by omega
    simp [fwCell, Fw.del, this]
  · rw [List.getElem?_set_ne h48, h0]
    unfold fwCell Fw.del
    simp only [if_neg (show ¬ k = 48 from fun e => h48 e.symm)]
end Go.Burg
namespace Go.Proofs.YtnngicopphiaaaaGreatDoor.F
set_option maxRecDepth 8000
open Go.ChangeShapes Go.WideShapes Go.ChangeAt Go.RowKit Go.Burg
theorem dnB_slice (x n : Nat) (hn : n ≤ 15) (w : World) : (Instr.sliceAt 207 (.pointer (some ⟨x, 0, none⟩)) (some (.int .i64 n)) none none).run Tryz.prog w = .ok (.slice (some ⟨x, n, none⟩) (16 - n) (16 - n)) w := by
  rw [run_sliceAt_array_l w 207 ⟨x, 0, none⟩ (by kernel_rfl) .i64 (n : Int) (by omega) (by rw [len16]; omega), size16, len16]
  simp only [Result.andThen_ok, slicedAt]
  have e : ((n : Int)).toNat = n := by omega
  rw [e, if_neg (by omega), addr_add, Nat.zero_add, Nat.mul_one]
theorem dnB_from (x n m : Nat) (hn : n < m) (hm : m ≤ 16) (w : World) : (Instr.sliceAt 207 (.pointer (some ⟨x, 0, none⟩)) (some (.int .i64 (n + 1))) (some (.int .i64 m)) none).run Tryz.prog w = .ok (.slice (some (aUp x 0 n 1)) (m - (n + 1)) (15 - n)) w := by
  rw [run_sliceAt_array_lh w 207 ⟨x, 0, none⟩ (by kernel_rfl) .i64 .i64 ((n : Int) + 1) m (by omega) (by omega) (by rw [len16]; omega), size16, len16]
  simp only [Result.andThen_ok, slicedAt, aUp]
  have e : ((n : Int) + 1).toNat = n + 1 := by omega
  have e2 : ((m : Int)).toNat = m := by omega
  rw [e, e2]
  by_cases h : n = 15
  · subst h; rfl
  · have h1 : ¬ (16 = n + 1) := by omega
    rw [if_neg h1, if_neg h, addr_add, show 16 - (n + 1) = 15 - n by omega]
theorem dnR_slice (x n : Nat) (hn : n ≤ 15) (w : World) : (Instr.sliceAt 208 (.pointer (some ⟨x, 16, none⟩)) (some (.int .i64 n)) none none).run Tryz.prog w = .ok (.slice (some ⟨x, 16 + n * 2, none⟩) (16 - n) (16 - n)) w := by
  rw [run_sliceAt_array_l w 208 ⟨x, 16, none⟩ (by kernel_rfl) .i64 (n : Int) (by omega) (by rw [lenR16]; omega), sizeR16, lenR16]
  simp only [Result.andThen_ok, slicedAt]
  have e : ((n : Int)).toNat = n := by omega
  rw [e, if_neg (by omega), addr_add]
theorem dnR_from (x n m : Nat) (hn : n < m) (hm : m ≤ 16) (w : World) : (Instr.sliceAt 208 (.pointer (some ⟨x, 16, none⟩)) (some (.int .i64 (n + 1))) (some (.int .i64 m)) none).run Tryz.prog w = .ok (.slice (some (aUp x 16 n 2)) (m - (n + 1)) (15 - n)) w := by
  rw [run_sliceAt_array_lh w 208 ⟨x, 16, none⟩ (by kernel_rfl) .i64 .i64 ((n : Int) + 1) m (by omega) (by omega) (by rw [lenR16]; omega), sizeR16, lenR16]
  simp only [Result.andThen_ok, slicedAt, aUp]
  have e : ((n : Int) + 1).toNat = n + 1 := by omega
  have e2 : ((m : Int)).toNat = m := by omega
  rw [e, e2]
  by_cases h : n = 15
  · subst h; rfl
  · have h1 : ¬ (16 = n + 1) := by omega
    rw [if_neg h1, if_neg h, addr_add, show 16 - (n + 1) = 15 - n by omega]
theorem copyB_dn {x n : Nat} {F : Fw} (ty : TypeId) (w : World) (h : FwAt 212 w x F) (hn : n < F.n) (h16 : F.n ≤ 16) :
    (Builtin.copy_ #[51, 51] ty #[.slice (some ⟨x, n, none⟩) (16 - n) (16 - n), .slice (some (aUp x 0 n 1)) (F.n - (n + 1)) (15 - n)]).run Tryz.prog w = .ok (goInt ((F.n - (n + 1) : Nat))) (w.setRow x (FwRow (F.dnB n)).toArray) := by
  have hm : Nat.min (F.n - (n + 1)) (16 - n) = F.n - (n + 1) := Nat.min_eq_left (by omega)
  have := run_copy_rowc (P := Tryz.prog) w 51 51 ty 5 x n (16 - n) (16 - n) (aUp x 0 n 1) (F.n - (n + 1)) (15 - n) (FwRow F).toArray 212 ((List.range (F.n - (n + 1))).map (fun j => Value.int .u8 (F.b (n + 1 + j)))) 1 Tryz.underlying51 (by kernel_rfl) h (by rw [hm]; simp) (fun j v hj => by
    have hj2 : j < F.n - (n + 1) := by
      have := (List.getElem?_eq_some_iff.1 hj).1
      simpa using this
    simp only [List.getElem?_map, List.getElem?_range hj2, Option.map_some, Option.some.injEq] at hj
    subst hj
    unfold aUp
    rw [if_neg (by omega), Nat.zero_add, Nat.mul_one, addr_add]
    exact h.byte (by omega)) (by simp [fwRow_len]; omega) (fun v hv => by
    obtain ⟨j, _, rfl⟩ := List.mem_map.1 hv
    rfl)
  rw [hm, List.toList_toArray, dnB_row F hn h16] at this
  exact this
theorem copyR_dn {x n : Nat} {F : Fw} (ty : TypeId) (w : World) (h : FwAt 212 w x F) (hn : n < F.n) (h16 : F.n ≤ 16) :
    (Builtin.copy_ #[43, 43] ty #[.slice (some ⟨x, 16 + n * 2, none⟩) (16 - n) (16 - n), .slice (some (aUp x 16 n 2)) (F.n - (n + 1)) (15 - n)]).run Tryz.prog w = .ok (goInt ((F.n - (n + 1) : Nat))) (w.setRow x (FwRow (F.dnR n)).toArray) := by
  have hm : Nat.min (F.n - (n + 1)) (16 - n) = F.n - (n + 1) := Nat.min_eq_left (by omega)
  have hlen := pairs_len (fun j => Value.int .i64 (F.s (n + 1 + j))) (fun j => Value.int .u32 (F.g (n + 1 + j))) (F.n - (n + 1))
  have := run_copy_rowc (P := Tryz.prog) w 43 43 ty 30 x (16 + n * 2) (16 - n) (16 - n) (aUp x 16 n 2) (F.n - (n + 1)) (15 - n) (FwRow F).toArray 212 ((List.range (F.n - (n + 1))).flatMap fun j => [Value.int .i64 (F.s (n + 1 + j)), Value.int .u32 (F.g (n + 1 + j))]) 2 Tryz.underlying43 (by kernel_rfl) h (by rw [hm, hlen]) (fun j v hj => by
    have hj2 : j < (F.n - (n + 1)) * 2 := by
      have := (List.getElem?_eq_some_iff.1 hj).1
      rwa [hlen] at this
    rw [pairs_get _ _ _ hj2] at hj
    obtain ⟨e1, e2⟩ := h.ref (i := n + 1 + j / 2) (by omega)
    unfold aUp
    rw [if_neg (by omega), addr_add]
    by_cases h3 : j % 2 = 0
    · rw [if_pos h3] at hj
      cases hj
      rw [← e1]; congr 2; omega
    · rw [if_neg h3] at hj
      cases hj
      rw [← e2]; congr 2; omega) (by rw [hlen]; simp [fwRow_len]; omega) (fun v hv => by
    obtain ⟨j, _, h1⟩ := List.mem_flatMap.1 hv
    simp at h1
    rcases h1 with rfl | rfl <;> rfl)
  rw [hm, List.toList_toArray, dnR_row F hn h16] at this
  exact this
set_option maxHeartbeats 4000000 in
theorem take_at {x n : Nat} {F : Fw} (w : World) (h : FwAt 212 w x F) (hn : n < F.n) (h16 : F.n ≤ 16) :
    Calls Tryz.prog 177 #[.pointer (some ⟨x, 0, none⟩), .int .i64 n] w fun e w' => e = .returned (.tuple #[]) ∧ FwAt 212 w' x (F.del n) ∧ Mod (· = x) w w' := by
  have s1 := dnB_slice x n (by omega)
  have s2 := dnB_from x n F.n hn h16
  have s3 := dnR_slice x n (by omega)
  have s4 := dnR_from x n F.n hn h16
  have HN := hid hn
  have H16 := hid h16
  have C1 : Hid (∀ (ty : TypeId) (w : World), FwAt 212 w x F → (Builtin.copy_ #[51, 51] ty #[.slice (some ⟨x, n, none⟩) (16 - n) (16 - n), .slice (some (aUp x 0 n 1)) (F.n - (n + 1)) (15 - n)]).run Tryz.prog w = .ok (goInt ((F.n - (n + 1) : Nat))) (w.setRow x (FwRow (F.dnB n)).toArray)) := hid fun ty w h => copyB_dn ty w h hn h16
  have C2 : Hid (∀ (ty : TypeId) (w : World), FwAt 212 w x (F.dnB n) → (Builtin.copy_ #[43, 43] ty #[.slice (some ⟨x, 16 + n * 2, none⟩) (16 - n) (16 - n), .slice (some (aUp x 16 n 2)) (F.n - (n + 1)) (15 - n)]).run Tryz.prog w = .ok (goInt ((F.n - (n + 1) : Nat))) (w.setRow x (FwRow ((F.dnB n).dnR n)).toArray)) := hid fun ty w h => copyR_dn ty w h hn h16
  generalize F.n - (n + 1) = m1 at *
  generalize 15 - n = m2 at *
  generalize 16 - n = m3 at *
  have HF := hid h
  clear h
  go_enter Tryz.func177, Tryz.ntmps177
  go_wp2_with fail
  refine wp_region_seqI 16 (Turn 15 (fun w1 => FwAt 212 w1 x F ∧ Mod (· = x) w w1) (fun w1 => FwAt 212 w1 x (F.dnB n) ∧ Mod (· = x) w w1)) (by kernel_rfl) (by kernel_rfl) (by kernel_rfl) (Turn.start ⟨HF.out, (Mod.refl _ _).drew⟩) ?_
  dsimp only [List.take]
  iterate 15
    refine Seq.calm (a' := ?_) (by decide) ?_ ?_ ?_
    rotate_left
    ·
      intro w1 hw1
      have n0 : w1.cell? ⟨x, 48, none⟩ = some (.int .i64 F.n) := hw1.elim (fun h => h.1.num.1) (fun h => h.1.num.1)
      clear hw1
      go_wp2_with (fail)
      first | (refine ⟨?_, id, id⟩; exact rfl) | (refine ⟨?_, fail⟩; exact rfl)
    · kernel_rfl
  refine Seq.turn (a' := ?_) ?_ ?_ ?_
  rotate_left
  ·
    intro w1 hw1
    have hF1 := hw1.1
    have HF1 := hid hF1
    have HM1 := hid hw1.2
    clear hw1 hF1
    refine wpList_copy_run w1 rfl _ _ _ _ rfl _ _ rfl rfl (C1.out _ w1 HF1.out) ?_
    go_wp2_with fail
    refine ⟨?_, setRow_block HF1.out, HM1.out.trans (mod_setRow _ _ _) (fun _ _ h => h)⟩
    exact rfl
  · kernel_rfl
  iterate 0
    refine Seq.calm (a' := ?_) (by decide) ?_ ?_ ?_
    rotate_left
    ·
      intro w1 hw1
      have n0 : w1.cell? ⟨x, 48, none⟩ = some (.int .i64 F.n) := hw1.elim (fun h => h.1.num.1) (fun h => h.1.num.1)
      clear hw1
      go_wp2_with (fail)
      first | (refine ⟨?_, id, id⟩; exact rfl) | (refine ⟨?_, fail⟩; exact rfl)
    · kernel_rfl
  refine SeqI.nil ?_
  intro D w1 hD hI
  replace hI := hI.done (hD 15 (by omega))
  clear hD
  dsimp only [List.drop]
  obtain ⟨hF1, hM1⟩ := hI
  have HF1 := hid hF1
  have HM1 := hid hM1
  clear hF1 hM1 HF
  rename World => wa
  go_wp2_with fail
  refine wp_region_seqI 16 (Turn 15 (fun w1 => FwAt 212 w1 x (F.dnB n) ∧ Mod (· = x) wa w1) (fun w1 => FwAt 212 w1 x ((F.dnB n).dnR n) ∧ Mod (· = x) wa w1)) (by kernel_rfl) (by kernel_rfl) (by kernel_rfl) (Turn.start ⟨HF1.out, (Mod.refl _ _).drew⟩) ?_
  dsimp only [List.take]
  iterate 15
    refine Seq.calm (a' := ?_) (by decide) ?_ ?_ ?_
    rotate_left
    ·
      intro w1 hw1
      have n0 : w1.cell? ⟨x, 48, none⟩ = some (.int .i64 F.n) := hw1.elim (fun h => h.1.num.1) (fun h => h.1.num.1)
      clear hw1
      go_wp2_with (fail)
      first | (refine ⟨?_, id, id⟩; exact rfl) | (refine ⟨?_, fail⟩; exact rfl)
    · kernel_rfl
  refine Seq.turn (a' := ?_) ?_ ?_ ?_
  rotate_left
  ·
    intro w1 hw1
    have hF1 := hw1.1
    have HF1 := hid hF1
    have HM1 := hid hw1.2
    clear hw1 hF1
    refine wpList_copy_run w1 rfl _ _ _ _ rfl _ _ rfl rfl (C2.out _ w1 HF1.out) ?_
    go_wp2_with fail
    refine ⟨?_, setRow_block HF1.out, HM1.out.trans (mod_setRow _ _ _) (fun _ _ h => h)⟩
    exact rfl
  · kernel_rfl
  iterate 0
    refine Seq.calm (a' := ?_) (by decide) ?_ ?_ ?_
    rotate_left
    ·
      intro w1 hw1
      have n0 : w1.cell? ⟨x, 48, none⟩ = some (.int .i64 F.n) := hw1.elim (fun h => h.1.num.1) (fun h => h.1.num.1)
      clear hw1
      go_wp2_with (fail)
      first | (refine ⟨?_, id, id⟩; exact rfl) | (refine ⟨?_, fail⟩; exact rfl)
    · kernel_rfl
  refine SeqI.nil ?_
  intro D w1 hD hI
  replace hI := hI.done (hD 15 (by omega))
  clear hD
  dsimp only [List.drop]
  obtain ⟨hF2, hM2⟩ := hI
  have HM2 := hid (HM1.out.trans hM2 (fun _ _ h => h))
  have HF2 := hid hF2
  clear hM2 HF1 HM1
  have n0 : w1.cell? ⟨x, 48, none⟩ = some (.int .i64 F.n) := hF2.num.1
  have f0 := hF2.free 48
  clear hF2
  go_wp2
  go_end0
  refine ⟨rfl, ?_, HM2.out.setCell (p := ⟨x, 48, none⟩) (.inl rfl) _⟩
  have := set_list (i := 48) (v := .int .i64 ((F.n : Int) - 1)) HF2.out
  rw [del_row F HN.out] at this
  exact this
end Go.Proofs.YtnngicopphiaaaaGreatDoor.F
