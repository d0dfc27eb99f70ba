/- SlabEnds: the walk. -/
import Derived.Test.YtmgiaedfonaefaaSE2
import Derived.Test.YtmgiaedfonaefaaAnc
import Derived.Test.YtmgiaedfonaefaaSEM
import Derived.Laws.Bits128
import Derived.Deep.DeepCutAuto
import Derived.Deep.CutRange
import Derived.Deep.CutBlock
namespace Go.Proofs.Ytmgiaedfonaefaa.Z
open Go.ChangeShapes Go.WideShapes Go.ChangeAt Go.RowKit Go.Burg Go.Shelf
open Go.Proofs.Ytmgiaedfonaefaa.C (KpC encs abides_below Lv kept_cells keeps_mod lives)
attribute [local go_sem] Oper.semAt_some

def dflat (D : List Deed) : List Value := D.flatMap fun d => [.int .i64 d.what, .int .i64 d.n, .int .i64 d.x, .int .i64 d.slot, .int .u32 d.gen]
theorem dflat_cons (d : Deed) (D : List Deed) : dflat (d :: D) = .int .i64 d.what :: .int .i64 d.n :: .int .i64 d.x :: .int .i64 d.slot :: .int .u32 d.gen :: dflat D := rfl
theorem dflat_app (D E : List Deed) : dflat (D ++ E) = dflat D ++ dflat E := by simp [dflat]
theorem dflat_at : ∀ (D : List Deed) (i : Nat) (d : Deed), D[i]? = some d → (dflat D)[i * 5]? = some (.int .i64 d.what) ∧ (dflat D)[i * 5 + 1]? = some (.int .i64 d.n) ∧ (dflat D)[i * 5 + 2]? = some (.int .i64 d.x) ∧ (dflat D)[i * 5 + 3]? = some (.int .i64 d.slot) ∧ (dflat D)[i * 5 + 4]? = some (.int .u32 d.gen)
  | [], i, t, h => by simp at h
  | u :: T, 0, t, h => by
    simp at h
    subst h
    exact ⟨rfl, rfl, rfl, rfl, rfl⟩
  | u :: T, i + 1, t, h => by
    have := dflat_at T i t (by simpa using h)
    rw [dflat_cons, show (i + 1) * 5 = i * 5 + 5 by omega]
    simpa using this
theorem deeds_row {w : World} {base : Nat} {v : Value} {D : List Deed} (h : w.ownsRow base 43 5 v D.length (dflat D)) (hg : ∀ d ∈ D, 0 ≤ d.gen ∧ d.gen ≤ 4294967295) : ∃ a cap, v = .slice a D.length cap ∧ DeedsAt5 w a D.length (fun i => D[i]?.getD ⟨0, 0, 0, 0, 0⟩) := by
  rcases h.2 with ⟨rfl, hn⟩ | ⟨gt, cap, cur, rfl, _, hgt, h1, h2, h3, h4⟩
  · exact ⟨none, 0, by rw [hn], fun h => by omega⟩
  · refine ⟨_, cap, rfl, fun _ => ⟨gt, 0, rfl, lt_of_block hgt, fun i hi => ?_⟩⟩
    have hd := List.getElem?_eq_getElem hi
    obtain ⟨a0, a1, a2, a3, a4⟩ := dflat_at D i _ hd
    have q : ∀ j, j < D.length * 5 → cur[j]? = (dflat D)[j]? := fun j hj => by rw [← h4, List.getElem?_take_of_lt hj, Array.getElem?_toList]
    have e : D[i]?.getD ⟨0, 0, 0, 0, 0⟩ = D[i] := by rw [hd]; rfl
    simp only [e, Nat.zero_add]
    have hm := hg D[i] (List.getElem_mem hi)
    exact ⟨(cell_of hgt _).trans ((q _ (by omega)).trans a0), (cell_of hgt _).trans ((q _ (by omega)).trans a1), (cell_of hgt _).trans ((q _ (by omega)).trans a2), (cell_of hgt _).trans ((q _ (by omega)).trans a3), (cell_of hgt _).trans ((q _ (by omega)).trans a4), hm.1, hm.2⟩

theorem i64_and3 (n : Int) : bits .and .i64 n 3 = n % 4 := by
  have h3 : (BitVec.ofInt 64 3).toNat = 2 ^ 2 - 1 := by decide
  have key : (BitVec.ofInt 64 n &&& BitVec.ofInt 64 3).toNat = (n % ((2 ^ 64 : Nat) : Int)).toNat % 2 ^ 2 := by
    rw [BitVec.toNat_and, BitVec.toNat_ofInt, h3, Nat.and_two_pow_sub_one_eq_mod]
  show IntKind.i64.wrap ((BitVec.ofInt 64 n &&& BitVec.ofInt 64 3).toNat : Nat) = n % 4
  rw [key, IntKind.wrap_i64]
  omega

theorem shr_and (i k : Nat) (hk : k < 6) : ∃ z r : Nat, r < 4 ∧ (∀ w, (Go.binOp BinOp.shr 3 (.int .i64 i) (.int .i64 (2 * (k : Int)))).run Try.prog w = .ok (.int .i64 z) w) ∧ ∀ w, (Go.binOp BinOp.and 3 (.int .i64 (z : Int)) (.int .i64 3)).run Try.prog w = .ok (.int .i64 r) w := by
  refine ⟨i / 2 ^ (2 * k), i / 2 ^ (2 * k) % 4, Nat.mod_lt _ (by omega), fun w => ?_, fun w => ?_⟩
  · have h := (show k = 0 ∨ k = 1 ∨ k = 2 ∨ k = 3 ∨ k = 4 ∨ k = 5 by omega)
    rcases h with rfl | rfl | rfl | rfl | rfl | rfl <;> simp [go_sem]
  · simp [go_sem, i64_and3]

/-- The cell that is picked of four. -/
theorem of_four (w : World) {r : Nat} (hr : r < 4) : ∃ v : Int, (w.alloc (.cells #[.int .i64 0, .int .i64 4, .int .i64 0, .int .i64 5] 3)).cell? ⟨w.heap.size, r, none⟩ = some (.int .i64 v) := by
  have h := cell_of (heap_new w (.cells #[.int .i64 0, .int .i64 4, .int .i64 0, .int .i64 5] 3)) r
  rcases (show r = 0 ∨ r = 1 ∨ r = 2 ∨ r = 3 by omega) with rfl | rfl | rfl | rfl
  · exact ⟨_, h⟩
  · exact ⟨_, h⟩
  · exact ⟨_, h⟩
  · exact ⟨_, h⟩

theorem news5 {w : World} {b : Nat} {x1 x2 x3 x4 x5 : Value} {t : TypeId} (h : w.heap[b]? = some (.cells #[x1, x2, x3, x4, x5] t)) : ∀ j u, [x1, x2, x3, x4, x5][j]? = some u → w.cell? ((⟨b, 0, none⟩ : Addr).add j) = some u := by
  intro j u hj
  have key : (⟨b, 0, none⟩ : Addr).add j = ⟨b, j, none⟩ := by unfold Addr.add; split <;> simp_all
  rw [key, cell_of h j, ← hj]
  simp

theorem end_cell {w : World} {E i : Nat} (h : w.heap[E]? = some (.cells #[.int .i64 (-9223372036854775808), .int .i64 (-1), .int .i64 0, .int .i64 1, .int .i64 2, .int .i64 3, .int .i64 9223372036854775807] 3)) (hi : i < 7) : ∃ v : Int, w.cell? ⟨E, i, none⟩ = some (.int .i64 v) := by
  have h := cell_of h i
  rcases (show i = 0 ∨ i = 1 ∨ i = 2 ∨ i = 3 ∨ i = 4 ∨ i = 5 ∨ i = 6 by omega) with rfl | rfl | rfl | rfl | rfl | rfl | rfl <;> exact ⟨_, h⟩

theorem deeds_blk {w : World} {b : Nat} {D : List Deed} (h : w.heap[b]? = some (.cells (dflat D).toArray 43)) (hg : ∀ d ∈ D, 0 ≤ d.gen ∧ d.gen ≤ 4294967295) : DeedsAt5 w (some ⟨b, 0, none⟩) D.length (fun i => D[i]?.getD ⟨0, 0, 0, 0, 0⟩) := fun _ => ⟨b, 0, rfl, lt_of_block h, fun i hi => by
  have hd := List.getElem?_eq_getElem hi
  obtain ⟨a0, a1, a2, a3, a4⟩ := dflat_at D i _ hd
  have q : ∀ j, (dflat D).toArray[j]? = (dflat D)[j]? := fun j => (Array.getElem?_toList (xs := (dflat D).toArray) (i := j)).symm
  have e : D[i]?.getD ⟨0, 0, 0, 0, 0⟩ = D[i] := by rw [hd]; rfl
  dsimp only
  simp only [e, Nat.zero_add]
  have hm := hg D[i] (List.getElem_mem hi)
  exact ⟨(cell_of h _).trans ((q _).trans a0), (cell_of h _).trans ((q _).trans a1), (cell_of h _).trans ((q _).trans a2), (cell_of h _).trans ((q _).trans a3), (cell_of h _).trans ((q _).trans a4), hm.1, hm.2⟩⟩

theorem deeds_ok (xv : Int) {k : Nat} (hk : k < 7) : ∀ d ∈ ([⟨0, 0, 1, 0, 0⟩, ⟨0, 0, 2, 0, 0⟩, ⟨2, 0, 0, xv, (k : Int)⟩, ⟨3, 0, 5, xv, (k : Int)⟩, ⟨0, 0, 3, 0, 0⟩, ⟨2, 0, 0, xv, (k : Int)⟩] : List Deed), 0 ≤ d.gen ∧ d.gen ≤ 4294967295 := by
  intro d hd
  simp only [List.mem_cons, List.not_mem_nil, or_false] at hd
  rcases hd with rfl | rfl | rfl | rfl | rfl | rfl <;> (constructor <;> simp <;> omega)

/-- The slab that is filled, and the box of its pointer. -/
structure EI (w : World) (b g cp : Nat) (l : List (Cel Int)) (T : Nat) (W : World) : Prop where
  sa : SlabC (fun x : Int => .int .i64 x) 69 66 W b g cp l
  bx : W.heap[T]? = some (.cells #[.pointer (some ⟨b, 0, none⟩)] 23)
  bel : Below w.heap.size w W
  wg : w.heap.size ≤ g
  wT : w.heap.size ≤ T
section
variable {w W W' : World} {b g cp T : Nat} {l l' : List (Cel Int)}
theorem EI.below (h : EI w b g cp l T W) (k : Below W.heap.size W W') : EI w b g cp l T W' :=
  ⟨h.sa.keep k, blk_below h.bx k (lt_of_block h.bx), h.bel.trans (k.mono h.bel.size), h.wg, h.wT⟩
theorem EI.turn (h : EI w b g cp l T W) (hs : SlabC (fun x : Int => .int .i64 x) 69 66 W' b g cp l') (k : Mod (· = g) W W') : EI w b g cp l' T W' := by
  obtain ⟨cs, hg, _⟩ := h.sa.hc.hg
  exact ⟨hs, (k.block _ (lt_of_block h.bx) (fun e => tag_ne h.bx hg (by decide) e)).trans h.bx, h.bel.trans (k.below h.bel.size (fun i hi e => by have := h.wg; omega)), h.wg, h.wT⟩
theorem EI.put (h : EI w b g cp l T W) {k i : Nat} {c : Array Value} {f : Nat × Nat} {v : Value} (hk : W.heap[k]? = some (.cells c 3 f)) (hw : w.heap.size ≤ k) : EI w b g cp l T (W.setCell ⟨k, i, none⟩ v) := by
  have hM : Mod (· = k) W (W.setCell ⟨k, i, none⟩ v) := Mod.setCell (S := (· = k)) (p := ⟨k, i, none⟩) (Mod.refl _ _) (.inl rfl) v
  obtain ⟨cs, hg, _⟩ := h.sa.hc.hg
  exact ⟨h.sa.mod hM (fun e => tag_ne h.sa.hb hk (by decide) e) (fun e => tag_ne hg hk (by decide) e), (hM.block _ (lt_of_block h.bx) (fun e => tag_ne h.bx hk (by decide) e)).trans h.bx, h.bel.trans (hM.below h.bel.size (fun i hi e => by omega)), h.wg, h.wT⟩
theorem EI.kept (h : EI w b g cp l T W) {row : Option Nat} (hg : W.grownBy W' row) {base : Nat} (hb : w.heap.size ≤ base) (hr : ∀ r, row = some r → base ≤ r ∧ ∃ o : Obj, W.heap[r]? = some o ∧ o.isCells = false) : EI w b g cp l T W' := by
  have kp : ∀ (k : Nat) (c : Array Value) (t : TypeId) (f : Nat × Nat), W.heap[k]? = some (.cells c t f) → W'.heap[k]? = W.heap[k]? := fun k c t f hk => (kept_cells hg hr hk rfl).trans hk.symm
  obtain ⟨cs, h1, _⟩ := h.sa.hc.hg
  exact ⟨h.sa.same (kp _ _ _ _ h.sa.hb) (kp _ _ _ _ h1), (kp _ _ _ _ h.bx).trans h.bx, h.bel.grown hg h.bel.size (fun k e => Nat.le_trans hb (hr k e).1), h.wg, h.wT⟩
end

set_option maxRecDepth 100000 in
set_option maxHeartbeats 8000000 in
theorem ends_any (w : World) : Calls Try.prog 6 #[] w fun e w' => e = .returned (.bool true) ∧ Below w.heap.size w w' := by
  obtain ⟨it, hit, hz, hsi, hby⟩ := info_parts (P := Try.prog) (e := 43) (z := .agg #[.int .i64 0, .int .i64 0, .int .i64 0, .int .i64 0, .int .u32 0]) (size := 5) (bytes := 40) (by kernel_rfl)
  have HI := hid hit
  have HZ := hid hz
  have HS := hid hsi
  have HY := hid hby
  clear hit hz hsi hby
  refine (callsIn_wide (n := 8)).1 ?_
  refine callsIn_of_wp_marks Try.func6 rfl trivial ?_ rfl
  refine wpIn_wide.2 ?_
  simp only [Try.ntmps6, List.size_toArray, List.length_nil, Nat.reduceSub, Array.replicate_succ, Array.replicate_zero, List.push_toArray, List.append_toArray, List.nil_append]
  go_wp2_with fail
  go_loopw [1] (fun nv wr => ∃ i : Nat, i ≤ 4096 ∧ nv = .int .i64 i ∧ Below w.heap.size w wr) (fun nv _ => 4096 - (intOf nv).toNat)
  case atStart => exact ⟨0, Nat.zero_le _, rfl, Below.refl _ _⟩
  case round =>
    obtain ⟨i, hi, rfl, hB⟩ := hrel
    have HB := hid hB
    clear hB
    by_cases hlt : i < 4096
    · have hd : decide ((i : Int) < 4096) = true := by simp; omega
      go_wp2_with fail
      go_loopw [2, 3] (fun lv kv wr2 => ∃ (k : Nat) (D : List Deed), k ≤ 6 ∧ kv = .int .i64 k ∧ D.length = k ∧ (∀ d ∈ D, 0 ≤ d.gen ∧ d.gen ≤ 4294967295) ∧ wr2.ownsRow w.heap.size 43 5 lv D.length (dflat D) ∧ Below w.heap.size w wr2) (fun _ kv _ => 6 - (intOf kv).toNat)
      case atStart => exact ⟨0, [], Nat.zero_le _, rfl, rfl, (fun d hd => by simp at hd), World.ownsRow_nil _ _ _ _, HB.out⟩
      case round =>
        obtain ⟨k, D, hk, rfl, hDl, hDg, hO, hB⟩ := hrel
        by_cases hk6 : k < 6
        · skip
          have hand := i64_and3 ((i : Int) / 2 ^ (2 * k))
          obtain ⟨r, hr⟩ : ∃ r : Nat, (i : Int) / 2 ^ (2 * k) % 4 = r := ⟨((i : Int) / 2 ^ (2 * k) % 4).toNat, by omega⟩
          have hr4 : r < 4 := by omega
          rw [hr] at hand
          have HDg := hid hDg
          have HO0 := hid hO
          have HB2 := hid hB
          have hws := hB.size
          clear hO hB hDg hr
          rcases (show r = 0 ∨ r = 1 ∨ r = 2 ∨ r = 3 by omega) with rfl | rfl | rfl | rfl
          · have HO := hid ((HO0.out.alloc (.cells #[.int .i64 0, .int .i64 4, .int .i64 0, .int .i64 5] 3)).alloc (.cells #[.int .i64 0, .int .i64 ((i : Int) + k), .int .i64 ((k : Int) + 1), .int .i64 0, .int .u32 0] 43))
            have HW := hid (news5 (w := (wr.alloc (.cells #[.int .i64 0, .int .i64 4, .int .i64 0, .int .i64 5] 3)).alloc (.cells #[.int .i64 0, .int .i64 ((i : Int) + k), .int .i64 ((k : Int) + 1), .int .i64 0, .int .u32 0] 43)) (b := wr.heap.size + 1) (by simpa using heap_new (wr.alloc (.cells #[.int .i64 0, .int .i64 4, .int .i64 0, .int .i64 5] 3)) (.cells #[.int .i64 0, .int .i64 ((i : Int) + k), .int .i64 ((k : Int) + 1), .int .i64 0, .int .u32 0] 43)))
            go_wp2_with (at_builtin; go_loud (refine wpList_append_own _ rfl (.tmp 26) (.tmp 41) 39 rfl w.heap.size 43 it _ 5 40 Try.underlying39 HI.out HZ.out HS.out HY.out rfl (by decide) u2 D.length (dflat D) rfl HO.out ⟨wr.heap.size + 1, 0, none⟩ 1 1 [.int .i64 0, .int .i64 ((i : Int) + k), .int .i64 ((k : Int) + 1), .int .i64 0, .int .u32 0] rfl rfl HW.out (by simp [Value.oneCell']) (by simp [maxLen]; omega) (by omega) (by simp; omega) ?_))
            intro v2 w6 hO7 hgr _
            have HB6 : Hid (Below w.heap.size w w6) := hid (((HB2.out.alloc (by omega) (.cells #[.int .i64 0, .int .i64 4, .int .i64 0, .int .i64 5] 3)).alloc (by simp; omega) (.cells #[.int .i64 0, .int .i64 ((i : Int) + k), .int .i64 ((k : Int) + 1), .int .i64 0, .int .u32 0] 43)).grown hgr (by simp; omega) (fun j e => (HO.out.lt j e).1))
            have HO6 : Hid (w6.ownsRow w.heap.size 43 5 v2 (D ++ [(⟨0, (i : Int) + k, (k : Int) + 1, 0, 0⟩ : Deed)]).length (dflat (D ++ [(⟨0, (i : Int) + k, (k : Int) + 1, 0, 0⟩ : Deed)]))) := hid (by rw [List.length_append, dflat_app, hDl]; exact hO7)
            clear hO7 hgr HO HW
            go_wp2_with fail
            go_roundw
            case rel => exact ⟨k + 1, _, by omega, by go_num, by rw [List.length_append, hDl]; rfl, (fun d hd => by rcases List.mem_append.1 hd with h | h; exact HDg.out d h; simp at h; subst h; exact ⟨by show (0 : Int) ≤ 0; omega, by show (0 : Int) ≤ 4294967295; omega⟩), HO6.out, HB6.out⟩
            case measure => simp [intOf]; omega
          · have HO := hid ((HO0.out.alloc (.cells #[.int .i64 0, .int .i64 4, .int .i64 0, .int .i64 5] 3)).alloc (.cells #[.int .i64 4, .int .i64 ((i : Int) + k), .int .i64 ((k : Int) + 1), .int .i64 0, .int .u32 0] 43))
            have HW := hid (news5 (w := (wr.alloc (.cells #[.int .i64 0, .int .i64 4, .int .i64 0, .int .i64 5] 3)).alloc (.cells #[.int .i64 4, .int .i64 ((i : Int) + k), .int .i64 ((k : Int) + 1), .int .i64 0, .int .u32 0] 43)) (b := wr.heap.size + 1) (by simpa using heap_new (wr.alloc (.cells #[.int .i64 0, .int .i64 4, .int .i64 0, .int .i64 5] 3)) (.cells #[.int .i64 4, .int .i64 ((i : Int) + k), .int .i64 ((k : Int) + 1), .int .i64 0, .int .u32 0] 43)))
            go_wp2_with (at_builtin; go_loud (refine wpList_append_own _ rfl (.tmp 26) (.tmp 41) 39 rfl w.heap.size 43 it _ 5 40 Try.underlying39 HI.out HZ.out HS.out HY.out rfl (by decide) u2 D.length (dflat D) rfl HO.out ⟨wr.heap.size + 1, 0, none⟩ 1 1 [.int .i64 4, .int .i64 ((i : Int) + k), .int .i64 ((k : Int) + 1), .int .i64 0, .int .u32 0] rfl rfl HW.out (by simp [Value.oneCell']) (by simp [maxLen]; omega) (by omega) (by simp; omega) ?_))
            intro v2 w6 hO7 hgr _
            have HB6 : Hid (Below w.heap.size w w6) := hid (((HB2.out.alloc (by omega) (.cells #[.int .i64 0, .int .i64 4, .int .i64 0, .int .i64 5] 3)).alloc (by simp; omega) (.cells #[.int .i64 4, .int .i64 ((i : Int) + k), .int .i64 ((k : Int) + 1), .int .i64 0, .int .u32 0] 43)).grown hgr (by simp; omega) (fun j e => (HO.out.lt j e).1))
            have HO6 : Hid (w6.ownsRow w.heap.size 43 5 v2 (D ++ [(⟨4, (i : Int) + k, (k : Int) + 1, 0, 0⟩ : Deed)]).length (dflat (D ++ [(⟨4, (i : Int) + k, (k : Int) + 1, 0, 0⟩ : Deed)]))) := hid (by rw [List.length_append, dflat_app, hDl]; exact hO7)
            clear hO7 hgr HO HW
            go_wp2_with fail
            go_roundw
            case rel => exact ⟨k + 1, _, by omega, by go_num, by rw [List.length_append, hDl]; rfl, (fun d hd => by rcases List.mem_append.1 hd with h | h; exact HDg.out d h; simp at h; subst h; exact ⟨by show (0 : Int) ≤ 0; omega, by show (0 : Int) ≤ 4294967295; omega⟩), HO6.out, HB6.out⟩
            case measure => simp [intOf]; omega
          · have HO := hid ((HO0.out.alloc (.cells #[.int .i64 0, .int .i64 4, .int .i64 0, .int .i64 5] 3)).alloc (.cells #[.int .i64 0, .int .i64 ((i : Int) + k), .int .i64 ((k : Int) + 1), .int .i64 0, .int .u32 0] 43))
            have HW := hid (news5 (w := (wr.alloc (.cells #[.int .i64 0, .int .i64 4, .int .i64 0, .int .i64 5] 3)).alloc (.cells #[.int .i64 0, .int .i64 ((i : Int) + k), .int .i64 ((k : Int) + 1), .int .i64 0, .int .u32 0] 43)) (b := wr.heap.size + 1) (by simpa using heap_new (wr.alloc (.cells #[.int .i64 0, .int .i64 4, .int .i64 0, .int .i64 5] 3)) (.cells #[.int .i64 0, .int .i64 ((i : Int) + k), .int .i64 ((k : Int) + 1), .int .i64 0, .int .u32 0] 43)))
            go_wp2_with (at_builtin; go_loud (refine wpList_append_own _ rfl (.tmp 26) (.tmp 41) 39 rfl w.heap.size 43 it _ 5 40 Try.underlying39 HI.out HZ.out HS.out HY.out rfl (by decide) u2 D.length (dflat D) rfl HO.out ⟨wr.heap.size + 1, 0, none⟩ 1 1 [.int .i64 0, .int .i64 ((i : Int) + k), .int .i64 ((k : Int) + 1), .int .i64 0, .int .u32 0] rfl rfl HW.out (by simp [Value.oneCell']) (by simp [maxLen]; omega) (by omega) (by simp; omega) ?_))
            intro v2 w6 hO7 hgr _
            have HB6 : Hid (Below w.heap.size w w6) := hid (((HB2.out.alloc (by omega) (.cells #[.int .i64 0, .int .i64 4, .int .i64 0, .int .i64 5] 3)).alloc (by simp; omega) (.cells #[.int .i64 0, .int .i64 ((i : Int) + k), .int .i64 ((k : Int) + 1), .int .i64 0, .int .u32 0] 43)).grown hgr (by simp; omega) (fun j e => (HO.out.lt j e).1))
            have HO6 : Hid (w6.ownsRow w.heap.size 43 5 v2 (D ++ [(⟨0, (i : Int) + k, (k : Int) + 1, 0, 0⟩ : Deed)]).length (dflat (D ++ [(⟨0, (i : Int) + k, (k : Int) + 1, 0, 0⟩ : Deed)]))) := hid (by rw [List.length_append, dflat_app, hDl]; exact hO7)
            clear hO7 hgr HO HW
            go_wp2_with fail
            go_roundw
            case rel => exact ⟨k + 1, _, by omega, by go_num, by rw [List.length_append, hDl]; rfl, (fun d hd => by rcases List.mem_append.1 hd with h | h; exact HDg.out d h; simp at h; subst h; exact ⟨by show (0 : Int) ≤ 0; omega, by show (0 : Int) ≤ 4294967295; omega⟩), HO6.out, HB6.out⟩
            case measure => simp [intOf]; omega
          · have HO := hid ((HO0.out.alloc (.cells #[.int .i64 0, .int .i64 4, .int .i64 0, .int .i64 5] 3)).alloc (.cells #[.int .i64 5, .int .i64 ((i : Int) + k), .int .i64 ((k : Int) + 1), .int .i64 0, .int .u32 0] 43))
            have HW := hid (news5 (w := (wr.alloc (.cells #[.int .i64 0, .int .i64 4, .int .i64 0, .int .i64 5] 3)).alloc (.cells #[.int .i64 5, .int .i64 ((i : Int) + k), .int .i64 ((k : Int) + 1), .int .i64 0, .int .u32 0] 43)) (b := wr.heap.size + 1) (by simpa using heap_new (wr.alloc (.cells #[.int .i64 0, .int .i64 4, .int .i64 0, .int .i64 5] 3)) (.cells #[.int .i64 5, .int .i64 ((i : Int) + k), .int .i64 ((k : Int) + 1), .int .i64 0, .int .u32 0] 43)))
            go_wp2_with (at_builtin; go_loud (refine wpList_append_own _ rfl (.tmp 26) (.tmp 41) 39 rfl w.heap.size 43 it _ 5 40 Try.underlying39 HI.out HZ.out HS.out HY.out rfl (by decide) u2 D.length (dflat D) rfl HO.out ⟨wr.heap.size + 1, 0, none⟩ 1 1 [.int .i64 5, .int .i64 ((i : Int) + k), .int .i64 ((k : Int) + 1), .int .i64 0, .int .u32 0] rfl rfl HW.out (by simp [Value.oneCell']) (by simp [maxLen]; omega) (by omega) (by simp; omega) ?_))
            intro v2 w6 hO7 hgr _
            have HB6 : Hid (Below w.heap.size w w6) := hid (((HB2.out.alloc (by omega) (.cells #[.int .i64 0, .int .i64 4, .int .i64 0, .int .i64 5] 3)).alloc (by simp; omega) (.cells #[.int .i64 5, .int .i64 ((i : Int) + k), .int .i64 ((k : Int) + 1), .int .i64 0, .int .u32 0] 43)).grown hgr (by simp; omega) (fun j e => (HO.out.lt j e).1))
            have HO6 : Hid (w6.ownsRow w.heap.size 43 5 v2 (D ++ [(⟨5, (i : Int) + k, (k : Int) + 1, 0, 0⟩ : Deed)]).length (dflat (D ++ [(⟨5, (i : Int) + k, (k : Int) + 1, 0, 0⟩ : Deed)]))) := hid (by rw [List.length_append, dflat_app, hDl]; exact hO7)
            clear hO7 hgr HO HW
            go_wp2_with fail
            go_roundw
            case rel => exact ⟨k + 1, _, by omega, by go_num, by rw [List.length_append, hDl]; rfl, (fun d hd => by rcases List.mem_append.1 hd with h | h; exact HDg.out d h; simp at h; subst h; exact ⟨by show (0 : Int) ≤ 0; omega, by show (0 : Int) ≤ 4294967295; omega⟩), HO6.out, HB6.out⟩
            case measure => simp [intOf]; omega
        · skip
          obtain rfl : k = 6 := by omega
          have HDg := hid hDg
          have HB2 := hid hB
          have hws := hB.size
          have HO := hid (hO.alloc (.cells #[.int .i64 6, .int .i64 0, .int .i64 0, .int .i64 0, .int .u32 0] 43))
          have HW := hid (news5 (w := wr.alloc (.cells #[.int .i64 6, .int .i64 0, .int .i64 0, .int .i64 0, .int .u32 0] 43)) (b := wr.heap.size) (heap_new wr (.cells #[.int .i64 6, .int .i64 0, .int .i64 0, .int .i64 0, .int .u32 0] 43)))
          clear hO hB hDg hk6
          go_wp2_with (at_builtin; go_loud (refine wpList_append_own _ rfl (.tmp 43) (.tmp 45) 39 rfl w.heap.size 43 it _ 5 40 Try.underlying39 HI.out HZ.out HS.out HY.out rfl (by decide) u2 D.length (dflat D) rfl HO.out ⟨wr.heap.size, 0, none⟩ 1 1 [.int .i64 6, .int .i64 0, .int .i64 0, .int .i64 0, .int .u32 0] rfl rfl HW.out (by simp [Value.oneCell']) (by simp [maxLen]; omega) (by omega) (by simp; omega) ?_))
          intro v2 w6 hO7 hgr _
          have HB6 : Hid (Below w.heap.size w w6) := hid ((HB2.out.alloc (by omega) (.cells #[.int .i64 6, .int .i64 0, .int .i64 0, .int .i64 0, .int .u32 0] 43)).grown hgr (by simp; omega) (fun j e => (HO.out.lt j e).1))
          have hO6 : w6.ownsRow w.heap.size 43 5 v2 (D ++ [(⟨6, 0, 0, 0, 0⟩ : Deed)]).length (dflat (D ++ [(⟨6, 0, 0, 0, 0⟩ : Deed)])) := by rw [List.length_append, dflat_app, hDl]; exact hO7
          obtain ⟨da, dc, rfl, hdd⟩ := deeds_row hO6 (fun d hd => by rcases List.mem_append.1 hd with h | h; exact HDg.out d h; simp at h; subst h; exact ⟨by show (0 : Int) ≤ 0; omega, by show (0 : Int) ≤ 4294967295; omega⟩)
          rw [show (D ++ [(⟨6, 0, 0, 0, 0⟩ : Deed)]).length = 7 by simp [hDl]] at hdd
          have HDD := hid hdd
          clear hO7 hO6 hgr HO HW hdd
          go_wp2_with fail
          refine (C.doeslaw_any 2 da 7 dc _ _ HDD.out).mono ?_
          rintro e w7 ⟨rfl, hB7⟩
          have HB7 : Hid (Below w.heap.size w w7) := hid (HB6.out.trans (hB7.mono HB6.out.size))
          clear hB7 HB6 HDD
          go_wp2_with fail
          go_roundw
          case rel => exact ⟨i + 1, by omega, by go_num, HB7.out⟩
          case measure => simp [intOf]; omega
    · have hd0 : decide ((i : Int) < 4096) = false := by simp; omega
      clear hlt hi
      have hE := heap_new wr (.cells #[.int .i64 (-9223372036854775808), .int .i64 (-1), .int .i64 0, .int .i64 1, .int .i64 2, .int .i64 3, .int .i64 9223372036854775807] 3)
      have HB0 := hid (HB.out.alloc HB.out.size (.cells #[.int .i64 (-9223372036854775808), .int .i64 (-1), .int .i64 0, .int .i64 1, .int .i64 2, .int .i64 3, .int .i64 9223372036854775807] 3))
      have hlz : wr.heap.size < (wr.alloc (.cells #[.int .i64 (-9223372036854775808), .int .i64 (-1), .int .i64 0, .int .i64 1, .int .i64 2, .int .i64 3, .int .i64 9223372036854775807] 3)).heap.size := by simp
      have hwz := HB.out.size
      clear HB
      go_wp2_with fail
      obtain ⟨E, hEE⟩ : ∃ E, wr.heap.size = E := ⟨_, rfl⟩
      simp only [hEE] at *
      generalize wr.alloc (.cells #[.int .i64 (-9223372036854775808), .int .i64 (-1), .int .i64 0, .int .i64 1, .int .i64 2, .int .i64 3, .int .i64 9223372036854775807] 3) = Wq at *
      have HE0 := hid hE
      clear hE hEE
      go_loopw [5] (fun iv wr => ∃ i : Nat, i ≤ 7 ∧ iv = .int .i64 i ∧ Below w.heap.size w wr ∧ wr.heap[E]? = some (.cells #[.int .i64 (-9223372036854775808), .int .i64 (-1), .int .i64 0, .int .i64 1, .int .i64 2, .int .i64 3, .int .i64 9223372036854775807] 3)) (fun iv _ => 7 - (intOf iv).toNat)
      case atStart => exact ⟨0, by omega, rfl, HB0.out, HE0.out⟩
      case round =>
        obtain ⟨i', hi, rfl, hB, hE⟩ := hrel
        have HB := hid hB
        have HE := hid hE
        clear hB hE HB0 HE0 hlz
        by_cases hlt : i' < 7
        · have hd : decide ((i' : Int) < 7) = true := by simp; omega
          go_wp2_with fail
          go_loopw [6] (fun kv wr => ∃ k : Nat, k ≤ 7 ∧ kv = .int .i64 k ∧ Below w.heap.size w wr ∧ wr.heap[E]? = some (.cells #[.int .i64 (-9223372036854775808), .int .i64 (-1), .int .i64 0, .int .i64 1, .int .i64 2, .int .i64 3, .int .i64 9223372036854775807] 3)) (fun kv _ => 7 - (intOf kv).toNat)
          case atStart => exact ⟨0, by omega, rfl, HB.out, HE.out⟩
          case round =>
            clear HB HE
            obtain ⟨k, hk, rfl, hB, hE⟩ := hrel
            have HB := hid hB
            have HE := hid hE
            clear hB hE
            by_cases hk7 : k < 7
            · skip
              have hdk : decide ((k : Int) < 7) = true := by simp; omega
              obtain ⟨xv, hx⟩ := end_cell HE.out hlt
              obtain ⟨sv, hs⟩ := end_cell HE.out hk7
              go_wp2_with fail
              have hN7 := heap_new wr (.cells #[.int .i64 xv, .int .u32 (k : Int)] 31)
              have HN7 := hid hN7
              have HE7 := hid (blk_alloc (o' := (.cells #[.int .i64 xv, .int .u32 (k : Int)] 31)) HE.out)
              have hs7 := cell_of HE7.out k
              have HSV := hid hs
              have HB7 := hid (HB.out.alloc HB.out.size (.cells #[.int .i64 xv, .int .u32 (k : Int)] 31))
              generalize wr.heap.size = R7 at *
              generalize wr.alloc (.cells #[.int .i64 xv, .int .u32 (k : Int)] 31) = W7 at *
              have hws7 := HB7.out.size
              clear hN7 hs7 hx hs
              refine wp_region_seqC 16 (Turn2 13 16 (fun b1 _ w1 => Below W7.heap.size W7 w1 ∧ (b1 = false → w1.heap.size = W7.heap.size) ∧ (b1 = true → w1.heap[W7.heap.size]? = some (.cells (dflat ([⟨0, 0, 1, 0, 0⟩, ⟨0, 0, 2, 0, 0⟩, ⟨2, 0, 0, xv, (k : Int)⟩, ⟨3, 0, 5, xv, (k : Int)⟩, ⟨0, 0, 3, 0, 0⟩, ⟨2, 0, 0, xv, (k : Int)⟩] : List Deed)).toArray 43)))) (by kernel_rfl) (by kernel_rfl) (by kernel_rfl) (Turn2.start ⟨⟨rfl, rfl, rfl, Nat.le_refl _, fun _ _ => rfl⟩, fun _ => rfl, fun e => by cases e⟩) ?_
              dsimp only [List.take]
              iterate 13
                refine SeqC.calm (a' := ?_) (by decide) (by decide) ?_ ?_ ?_
                rotate_left
                ·
                  intro b1 b2 w1 ec1 ec2 ed1 ed2 hw1
                  have HW1 := hid hw1
                  have e0 := cell_of (blk_below HE7.out hw1.1 (lt_of_block HE7.out)) k
                  have hsk : w1.cell? ⟨E, k, none⟩ = some (.int .i64 sv) := e0.trans ((cell_of HE.out k).symm.trans HSV.out)
                  have hn := blk_below HN7.out hw1.1 (lt_of_block HN7.out)
                  have x0 := cell_of hn 0
                  have x1 := cell_of hn 1
                  clear hw1 ec1 ec2 ed1 ed2 e0 hn
                  go_wp2_with (fail)
                  refine ⟨?_, HW1.out⟩
                  exact rfl
                · kernel_rfl
              refine SeqC.fst (a' := ?_) (by decide) ?_ ?_ ?_
              rotate_left
              ·
                intro b2 w1 ed1 ed2 hw1
                have HW1 := hid hw1
                have hz := hid (hw1.2.1 rfl)
                clear hw1 ed1 ed2
                go_wp2_with fail
                refine ⟨?_, HW1.out.1.alloc HW1.out.1.size _, by rw [← hz.out]; exact heap_new _ _⟩
                rw [hz.out]
              · kernel_rfl
              refine SeqC.calm (a' := ?_) (by decide) (by decide) ?_ ?_ ?_
              rotate_left
              ·
                intro b1 b2 w1 ec1 ec2 ed1 ed2 hw1
                obtain rfl := ec2 (by kernel_rfl)
                have HW1 := hid hw1
                have HDD := hid (deeds_blk (hw1.2.2 rfl) (deeds_ok xv hk7))
                clear hw1 ec1 ec2 ed1 ed2
                go_wp2_with (go_at_call 5; refine (C.doeslaw_any sv _ 6 6 _ _ HDD.out).mono ?_; rintro e w2 ⟨rfl, hb⟩)
                refine ⟨?_, HW1.out.1.trans (hb.mono HW1.out.1.size), (fun e => by cases e), fun _ => blk_below (HW1.out.2.2 (by first | rfl | trivial)) hb (lt_of_block (HW1.out.2.2 (by first | rfl | trivial)))⟩
                exact rfl
              · kernel_rfl
              refine SeqC.calm (a' := ?_) (by decide) (by decide) ?_ ?_ ?_
              rotate_left
              ·
                intro b1 b2 w1 ec1 ec2 ed1 ed2 hw1
                have HW1 := hid hw1
                have e0 := cell_of (blk_below HE7.out hw1.1 (lt_of_block HE7.out)) k
                have hsk : w1.cell? ⟨E, k, none⟩ = some (.int .i64 sv) := e0.trans ((cell_of HE.out k).symm.trans HSV.out)
                have hn := blk_below HN7.out hw1.1 (lt_of_block HN7.out)
                have x0 := cell_of hn 0
                have x1 := cell_of hn 1
                clear hw1 ec1 ec2 ed1 ed2 e0 hn
                go_wp2_with (fail)
                refine ⟨?_, HW1.out⟩
                exact rfl
              · kernel_rfl
              refine SeqC.nil ?_
              intro D w1 hD hI
              have hI2 : Below W7.heap.size W7 w1 := by unfold Turn2 at hI; exact hI.1
              have HB8 := hid (HB7.out.trans (hI2.mono hws7))
              have HE8 := hid (blk_below HE7.out hI2 (lt_of_block HE7.out))
              clear hD hI hI2
              dsimp only [List.drop]
              go_wp2_with fail
              go_roundw
              case rel => exact ⟨k + 1, by omega, by go_num, HB8.out, HE8.out⟩
              case measure => simp [intOf]; omega
            · obtain rfl : k = 7 := by omega
              go_wp2_with fail
              go_roundw
              case rel => exact ⟨i' + 1, by omega, by go_num, HB.out, HE.out⟩
              case measure => simp [intOf]; omega
        · have hd7 : decide ((i' : Int) < 7) = false := by simp; omega
          clear hlt hi
          have hwz := HB.out.size
          clear HE
          go_wp2_with fail
          refine (C.new_no 4097 _ (by omega)).mono ?_
          rintro e w1 ⟨rfl, rfl⟩
          go_wp2_with fail
          refine (I.new_any 4096 _ (by omega) (by omega)).mono ?_
          rintro e w2 ⟨b, g, rfl, hb, hg, hS, hX⟩
          have hS0 : SlabC (fun x : Int => .int .i64 x) 69 66 w2 b g 4096 (fill 4096 0) := by
            have := hS.toC
            rw [List.length_replicate] at this
            exact this
          have HG0 : Hid (EI w b g 4096 (fill 4096 0) w2.heap.size (w2.alloc (.cells #[.pointer (some ⟨b, 0, none⟩)] 23))) := hid ⟨hS0.alloc _, heap_new _ _, (HB.out.trans (hX.mono HB.out.size)).alloc (by have := hX.size; omega) _, by omega, by have := hX.size; omega⟩
          have hz2 := hX.size
          clear hS hS0 hX hb hg HB
          go_wp2_with fail
          generalize w2.alloc (.cells #[.pointer (some ⟨b, 0, none⟩)] 23) = W2 at *
          generalize w2.heap.size = T at *
          go_loopw [12] (fun iv wr => ∃ j : Nat, j ≤ 4096 ∧ iv = .int .i64 j ∧ EI w b g 4096 (fill 4096 j) T wr) (fun iv _ => 4096 - (intOf iv).toNat)
          case atStart => exact ⟨0, by omega, rfl, HG0.out⟩
          case round =>
            clear HG0
            obtain ⟨j, hj, rfl, hG⟩ := hrel
            have HG := hid hG
            have kT := cell_of hG.bx 0
            clear hG
            by_cases hjl : j < 4096
            · have hdj : decide ((j : Int) < 4096) = true := by simp; omega
              go_wp2_with fail
              refine (C.take_yes (j : Int) _ HG.out.sa (fill_first hjl) (fill_at hjl) rfl).mono ?_
              rintro e w3 ⟨rfl, hs, hM⟩
              have HG3 := hid (HG.out.turn (fill_set hjl ▸ hs) hM)
              clear hs hM HG
              go_wp2_with fail
              go_roundw
              case rel => exact ⟨j + 1, by omega, by go_num, HG3.out⟩
              case measure => simp [intOf]; omega
            · have hj4 : j = 4096 := by omega
              have hdj : decide ((j : Int) < 4096) = false := by simp; omega
              have HGf : Hid (EI w b g 4096 (fill 4096 4096) T wr) := hid (by rw [← hj4]; exact hj4 ▸ HG.out)
              clear hj hjl hj4 HG
              go_wp2_with fail
              refine (C.take_no 1 _ HGf.out.sa (fill_none 4096)).mono ?_
              rintro e w3 ⟨rfl, hX⟩
              have HG3 := hid (HGf.out.below hX)
              clear hX HGf
              have h15 : ((w3.alloc (.cells #[.int .i64 0, .int .u32 0] 31)).alloc (.cells #[.int .i64 0] 3)).heap[w3.heap.size + 1]? = some (.cells #[.int .i64 0] 3) := by
                have := heap_new (w3.alloc (.cells #[.int .i64 0, .int .u32 0] 31)) (.cells #[.int .i64 0] 3)
                simpa using this
              have HG4 := hid ((HG3.out.below ((Below.refl _ _).alloc (Nat.le_refl _) (.cells #[.int .i64 0, .int .u32 0] 31))).below ((Below.refl _ _).alloc (Nat.le_refl _) (.cells #[.int .i64 0] 3)))
              have H15 := hid h15
              have kT := cell_of HG4.out.bx 0
              have hz4 : ((w3.alloc (.cells #[.int .i64 0, .int .u32 0] 31)).alloc (.cells #[.int .i64 0] 3)).heap.size = w3.heap.size + 2 := by simp
              clear h15
              go_wp2_with fail
              generalize (w3.alloc (.cells #[.int .i64 0, .int .u32 0] 31)).alloc (.cells #[.int .i64 0] 3) = W4 at *
              refine (C.all_any _).mono ?_
              rintro e w5 ⟨rfl, rfl⟩
              have HG5 := hid (HG4.out.below ((Below.refl _ _).alloc (Nat.le_refl _) (.cells #[.pointer (some ⟨b, 0, none⟩)] 23)))
              have HKB := hid (heap_new W4 (.cells #[.pointer (some ⟨b, 0, none⟩)] 23))
              have H15' := hid (blk_alloc (o' := (.cells #[.pointer (some ⟨b, 0, none⟩)] 23)) H15.out)
              have hz5 : (W4.alloc (.cells #[.pointer (some ⟨b, 0, none⟩)] 23)).heap.size = W4.heap.size + 1 := by simp
              clear HG4 H15 kT
              go_wp2_with fail
              generalize W4.alloc (.cells #[.pointer (some ⟨b, 0, none⟩)] 23) = Wl at *
              obtain ⟨Bq, hBq⟩ : ∃ Bq, W4.heap.size = Bq := ⟨_, rfl⟩
              have hwR : w.heap.size ≤ w3.heap.size := HG3.out.bel.size
              obtain ⟨R, hR⟩ : ∃ R, w3.heap.size = R := ⟨_, rfl⟩
              simp only [hBq, hR] at *
              clear hBq hR
              obtain rfl : Bq = R + 2 := hz4
              have hP3 : ∀ pre, pre <+: lives (fill 4096 4096) → pre.length ≤ 3 → pre <+: three := fun pre h1 h2 => pre_three (by omega) h1 h2
              have hLn : 3 ≤ (lives (fill 4096 4096)).length := lives_three (by omega)
              have hSC : (three.foldl step (fill 4096 4096)).countP Cel.is = 4092 := steps_count (by omega)
              clear HG3
              generalize fill 4096 4096 = L at *
              have hgl := HG5.out.sa.glt
              have hwl : w.heap.size ≤ Wl.heap.size := HG5.out.bel.size
              have hRl : R + 1 < Wl.heap.size := by omega
              refine wpIn_wide.1 (wpIn_rangeFunc_ownH (n := 8) (gf := 42) (lb := #[.pointer (some ⟨R + 2, 0, none⟩)]) rfl (by decide) rfl trivial (enters_of Try.func42 (by kernel_rfl) rfl)
                (C.all_stops 7 (R + 2) b g 4096 L Wl HKB.out HG5.out.sa) KpC.trans (fun W L o o' _ h ho _ => C.KpC.put W L o o' h ho) (Below.refl _ _) (fun _ => rfl)
                (fun pre W => ∃ m, EI w b g 4096 m T W ∧ W.heap[R + 1]? = some (.cells #[.int .i64 pre.length] 3) ∧ pre.length ≤ 2 ∧ (pre <+: lives L → m = pre.foldl step L) ∧ Wl.heap.size ≤ W.heap.size)
                (fun c pre W => c = .exit 10 ∧ ∃ m, EI w b g 4096 m T W ∧ W.heap[R + 1]? = some (.cells #[.int .i64 3] 3) ∧ pre.length = 3 ∧ (pre <+: lives L → m = pre.foldl step L))
                (fun pre A B row hs hg hr => by obtain ⟨m, h1, h2, h3, h4, h5⟩ := hs; exact ⟨m, h1.kept hg (base := Wl.heap.size) hwl hr, kept_cells hg hr h2 rfl, h3, h4, Nat.le_trans h5 hg.size⟩)
                (fun c pre A B row hs hg hr => by obtain ⟨hc, m, h1, h2, h3, h4⟩ := hs; exact ⟨hc, m, h1.kept hg (base := Wl.heap.size) hwl hr, kept_cells hg hr h2 rfl, h3, h4⟩)
                ⟨L, HG5.out, H15'.out, by simp, fun _ => rfl, Nat.le_refl _⟩
                (fun y a' W => ∃ Bx, Wl.heap.size ≤ Bx ∧ W.heap[Bx]? = some (.cells #[.int .i64 (y.1 : Int), .int .u32 y.2.1] 31) ∧ a' = { tmps := #[u0, Value.int IntKind.i64 ↑i, u2, u3, Value.slice (some ⟨E, 0, none⟩) 7 7, Value.int IntKind.i64 ↑i', u6, u7, Value.pointer none, Value.int IntKind.i64 2, Value.pointer (some ⟨T, 0, none⟩), Value.int IntKind.i64 0, Value.int IntKind.i64 ↑j, Value.pointer (some ⟨R, 0, none⟩), Value.int IntKind.i64 14, Value.pointer (some ⟨R + 1, 0, none⟩), .pointer (some ⟨Bx, 0, none⟩), .int .i64 y.2.2, Value.int IntKind.i64 ↑i, Value.bool false, u20, u21, u22, u23, u24, u25, u26, u27, u28, u29, u30, u31, u32, u33, u34, u35, u36, u37, u38, u39, u40, u41, u42, u43, u44, u45, u46, u47, u48, Value.slice (some ⟨E, 0, none⟩) 7 7, Value.int IntKind.i64 ↑i', Value.bool false, u52, u53, u54, u55, u56, u57, u58, u59, u60, u61, u62, u63, u64, u65, u66, u67, u68, u69, u70, u71, u72, u73, u74, u75, u76, u77, u78, u79, u80, Value.tuple #[Value.pointer none, Value.int IntKind.i64 2], Value.tuple #[Value.pointer none, Value.int IntKind.i64 2], Value.pointer none, Value.int IntKind.i64 2, Value.tuple #[Value.pointer (some ⟨b, 0, none⟩), Value.int IntKind.i64 0], Value.tuple #[Value.pointer (some ⟨b, 0, none⟩), Value.int IntKind.i64 0], Value.pointer (some ⟨b, 0, none⟩), Value.int IntKind.i64 0, Value.int IntKind.i64 ↑j, Value.bool false, u91, u92, u93, u94, u95, Value.tuple #[Value.agg #[Value.int IntKind.i64 0, Value.int IntKind.u32 0], Value.int IntKind.i64 14], Value.pointer (some ⟨b, 0, none⟩), Value.tuple #[Value.agg #[Value.int IntKind.i64 0, Value.int IntKind.u32 0], Value.int IntKind.i64 14], Value.agg #[Value.int IntKind.i64 0, Value.int IntKind.u32 0], Value.int IntKind.i64 14, Value.pointer (some ⟨b, 0, none⟩), Value.func (Fn.func 42) #[] #[Value.pointer (some ⟨R + 2, 0, none⟩)], .agg #[.int .i64 (y.1 : Int), .int .u32 y.2.1], .int .i64 y.2.2, undef, undef, undef, undef, undef, undef, undef, undef, undef, undef, undef, undef, undef, undef, undef, undef, undef, undef, undef, undef, undef, undef, undef, undef, undef, undef, undef, undef, undef, undef, undef, undef, undef, undef, undef, undef, undef], defers := [] })
                (fun y a' _ A B row hs hg hr => by obtain ⟨Bx, h1, h2, h3⟩ := hs; exact ⟨Bx, h1, kept_cells hg hr h2 rfl, h3⟩)
                ?assign ?body ?done ?stop)
              case assign =>
                intro Lp pre y W K hI hK
                unfold encs
                gi_wp2_with fail
                obtain ⟨m, h1, h2, h3, h4, h5⟩ := hI
                refine hK _ _ ((KeepsOthers.alloc _ _).from _) (C.KpC.below ((Below.refl _ _).alloc (Nat.le_refl _) _)) ⟨m, h1.below ((Below.refl _ _).alloc (Nat.le_refl _) _), blk_alloc h2, h3, h4, Nat.le_trans h5 (by simp)⟩ ⟨W.heap.size, h5, heap_new _ _, ?_⟩
                rfl
              case body =>
                rintro Lp pre y a' W hl _ ⟨m, hE, hn, hln, hm, hz⟩ ⟨Bx, hBx, hX, rfl⟩ hlen
                have kT := cell_of hE.bx 0
                have y0 := cell_of hX 0
                have y1 := cell_of hX 1
                have HE := hid hE
                have HN := hid hn
                have HM := hid hm
                clear hE hn hX hm hlen
                gi_wp2_with fail
                obtain ⟨k1, hf⟩ := free_fr m (y.1 : Int) y.2.1
                refine ⟨trivial, ?_⟩
                refine (callsIn_round (hf _ _ _ _ HE.out.sa)).mono ?_
                rintro e W2 ⟨rfl, hs, hM⟩
                obtain ⟨cs, hcs, _⟩ := HE.out.sa.hc.hg
                have HE2 := hid (HE.out.turn hs hM)
                have HN2 := hid ((hM.block _ (lt_of_block HN.out) (fun e => tag_ne HN.out hcs (by decide) e)).trans HN.out)
                have HM2 := hid hM
                have kT := cell_of HE2.out.bx 0
                clear hs hM hcs hf HE HN y0 y1
                gi_wp2_with fail
                obtain ⟨k2, hf⟩ := free_fr (fr m (y.1 : Int) y.2.1) (wrap64 (y.2.2 + 1)) 1
                refine ⟨trivial, ?_⟩
                refine (callsIn_round (hf _ _ _ _ HE2.out.sa)).mono ?_
                rintro e W3 ⟨rfl, hs, hM3⟩
                obtain ⟨cs, hcs, _⟩ := HE2.out.sa.hc.hg
                have HE3 : Hid (EI w b g 4096 (step m y) T W3) := hid (HE2.out.turn hs hM3)
                have hn3 := (hM3.block _ (lt_of_block HN2.out) (fun e => tag_ne HN2.out hcs (by decide) e)).trans HN2.out
                have HN3 := hid hn3
                have HMM : Hid (Mod (· = g) W W3) := hid (HM2.out.trans hM3 (fun _ _ h => h))
                have fn := free_of hn3
                clear hs hcs hf HE2 HN2 HM2 kT hM3
                have hzz := HMM.out.size
                have hst : ∀ pre' : List Lv, pre' = pre → (pre' ++ [y]).foldl step L = step (pre'.foldl step L) y := fun pre' _ => by rw [List.foldl_append]; rfl
                have HM' : Hid (pre ++ [y] <+: lives L → step m y = (pre ++ [y]).foldl step L) := hid (fun hp => by rw [hst pre rfl, HM.out ((List.prefix_append _ _).trans hp)])
                clear hst HM
                by_cases hl2 : pre.length = 2
                · have k15 := cell_of hn3 0
                  rw [hl2] at k15
                  have h6 : (W3.setCell ⟨R + 1, 0, none⟩ (.int .i64 3)).heap[R + 1]? = some (.cells #[.int .i64 3] 3) := by simpa using heap_set (i := 0) (v := .int .i64 3) HN3.out
                  have HE4 : Hid (EI w b g 4096 (step m y) T (W3.setCell ⟨R + 1, 0, none⟩ (.int .i64 3))) := hid (HE3.out.put HN3.out (by omega))
                  clear hn3
                  gi_wp2_with fail
                  exact ⟨(keeps_mod HMM.out hgl).trans ((KeepsOthers.setCell _ _ _).from _), rfl, step m y, HE4.out, h6, by rw [List.length_append, hl2]; rfl, HM'.out⟩
                · have k15 := cell_of hn3 0
                  have hne3 : ((pre.length : Int) + 1 == 3) = false := by
                    rw [Bool.eq_false_iff]
                    intro h
                    have := eq_of_beq h
                    omega
                  have h6 : (W3.setCell ⟨R + 1, 0, none⟩ (.int .i64 ((pre.length : Int) + 1))).heap[R + 1]? = some (.cells #[.int .i64 ((pre.length : Int) + 1)] 3) := by simpa using heap_set (i := 0) (v := .int .i64 ((pre.length : Int) + 1)) HN3.out
                  have HE4 : Hid (EI w b g 4096 (step m y) T (W3.setCell ⟨R + 1, 0, none⟩ (.int .i64 ((pre.length : Int) + 1)))) := hid (HE3.out.put HN3.out (by omega))
                  have hM4 : Mod (· = R + 1) W3 (W3.setCell ⟨R + 1, 0, none⟩ (.int .i64 ((pre.length : Int) + 1))) := Mod.setCell (S := (· = R + 1)) (p := ⟨R + 1, 0, none⟩) (Mod.refl _ _) (.inl rfl) _
                  clear hn3
                  gi_wp2_with fail
                  exact ⟨(keeps_mod HMM.out hgl).trans ((KeepsOthers.setCell _ _ _).from _), (C.KpC.mod HMM.out (fun i hi e => by omega)).trans (C.KpC.mod hM4 (fun i hi e => by omega)), step m y, HE4.out, by rw [List.length_append]; exact h6, by rw [List.length_append]; simp; omega, HM'.out, by simpa using Nat.le_trans hz hzz⟩
              case done =>
                rintro D ys W hD rfl ⟨m, h1, h2, h3, h4, h5⟩ hK
                omega
              case stop =>
                rintro D c pre W hD hp ⟨rfl, m, hE, hn, hl3, hm⟩ hK
                refine wpIn_wide.2 ?_
                have h3 := hP3 pre hp (by omega)
                obtain rfl : pre = three := h3.eq_of_length (by rw [hl3]; rfl)
                have hc := hm hp
                have HE := hid hE
                have HK := hid hK
                have kn := cell_of hn 0
                have kT := cell_of hE.bx 0
                have HCN : Hid (m.countP Cel.is = 4092) := hid (by rw [hc]; exact hSC)
                clear hE hK hm hc hn
                go_wp2_with fail
                refine (C.len_any _ HE.out.sa).mono ?_
                rintro e w6 ⟨rfl, hX⟩
                rw [HCN.out]
                have HE6 := hid (HE.out.below hX)
                have HK6 := hid (blk_below HK.out hX (lt_of_block HK.out))
                clear hX HE HK kn kT
                go_wp2_with fail
                refine (none_any _).mono ?_
                rintro e w7 ⟨rfl, hX⟩
                have HE7 := hid (HE6.out.below hX)
                have HK7 := hid (blk_below HK6.out hX (lt_of_block HK6.out))
                clear hX HE6 HK6
                go_wp2_with fail
                refine (awake_any _).mono ?_
                rintro e w8 ⟨rfl, hX⟩
                have HE8 := hid (HE7.out.below hX)
                have HK8 := hid (blk_below HK7.out hX (lt_of_block HK7.out))
                clear hX HE7 HK7
                go_wp2_with fail
                refine ⟨by simp, .inl ⟨_, _, rfl, run_takeDeferred HK8.out, ?_⟩⟩
                exact ⟨.bool true, by simp [results, Try.results6, go_sem], rfl, HE8.out.bel.trans (belowK_b (w := w) (Nat.le_refl _) _ D _ _ (by omega) HK8.out rfl rfl)⟩
end Go.Proofs.Ytmgiaedfonaefaa.Z
